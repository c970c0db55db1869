/- Texts of this proof, merged: DecT, WriA, Quo2, WriL. No condition beyond what each theorem states. -/
import Derived.Test.YthpmfkkmhbbloaaGreatDoorRows
import Derived.WalkKit
import Derived.ProofKit
import Derived.OpenShut
import Derived.Handy
import Derived.Lib.Hide
import Derived.Lib.SmallJoins
import Derived.Laws.BytesArg
import Derived.Lib.ItoaNum
import Derived.Lib.ItoaLen
import Derived.Lib.AppendIntMem
import Derived.Deep.RegionHeld3
import Derived.Deep.QuietTactic
import Derived.BigQuiet
import Derived.Test.YthpmfkkmhbbloaaGreatDoorZF1
import Derived.Test.YthpmfkkmhbbloaaGreatDoorZF2
import Derived.Test.YthpmfkkmhbbloaaGreatDoorZF3
import Derived.Test.YthpmfkkmhbbloaaGreatDoorZF7
import Derived.Test.YthpmfkkmhbbloaaGreatDoorShelf
import Derived.Test.YthpmfkkmhbbloaaGreatDoorZF4
import Derived.Test.YthpmfkkmhbbloaaGreatDoorZF5
import Derived.Test.YthpmfkkmhbbloaaGreatDoorZF12
import Derived.Test.YthpmfkkmhbbloaaGreatDoorZF13
import Derived.Deep.AppendLies
import Derived.Lib.AppendStr
import Derived.Lib.ValidAsc
import Derived.Test.YthpmfkkmhbbloaaGreatDoorZF9
import Derived.Test.YthpmfkkmhbbloaaGreatDoorZF22
import Derived.Test.YthpmfkkmhbbloaaGreatDoorZF6
import Derived.Test.YthpmfkkmhbbloaaGreatDoorZF10
import Derived.Lib.OthersKept
import Derived.Laws.RangeString
import Derived.Laws.RangeAny
set_option linter.unusedSimpArgs false
set_option linter.unnecessarySimpa false
namespace Go.Proofs.YthpmfkkmhbbloaaGreatDoor
open Go.ChangeShapes Go.WideShapes Go.ChangeAt Go.RowKit Go.Joins
set_option linter.unusedVariables false
set_option maxRecDepth 100000
/-- The digits of a number, without its sign. -/
def digT (n : Int) : ByteArray := ⟨(Lib.decDigits n.natAbs).toArray⟩
theorem digT_size (n : Int) : (digT n).size = digN n := by
  rw [Lib.size_eq]; exact Lib.decDigits_length _
theorem numT_neg {n : Int} (h : n < 0) : numT n = ⟨#[45]⟩ ++ digT n := by
  unfold numT Lib.itoa digT; rw [if_pos h]; apply ByteArray.ext; simp [ByteArray.data_append]
theorem numT_pos {n : Int} (h : ¬ n < 0) : numT n = digT n := by
  unfold numT Lib.itoa digT; rw [if_neg h, show n.toNat = n.natAbs from by omega]
theorem numT_tail {n : Int} (h : n < 0) : (numT n).extract 1 (numT n).size = digT n := by
  apply ByteArray.ext; apply Array.ext'
  rw [Lib.ext_list]
  unfold numT Lib.itoa digT; rw [if_pos h]; simp
theorem cut_neg {n : Int} (h : n < 0) : (⟨(Lib.trimPrefix (numT n).data.toList (⟨#[45]⟩ : ByteArray).data.toList).toArray⟩ : ByteArray) = digT n ∧ Lib.hasPrefix (numT n).data.toList (⟨#[45]⟩ : ByteArray).data.toList = true := by
  have hp : Lib.hasPrefix (numT n).data.toList (⟨#[45]⟩ : ByteArray).data.toList = true := by
    unfold numT Lib.itoa; rw [if_pos h]; simp [Lib.hasPrefix]
  refine ⟨?_, hp⟩
  unfold Lib.trimPrefix
  rw [if_pos hp]
  unfold numT Lib.itoa digT; rw [if_pos h]; simp
theorem cut_pos {n : Int} (h : ¬ n < 0) : (⟨(Lib.trimPrefix (numT n).data.toList (⟨#[45]⟩ : ByteArray).data.toList).toArray⟩ : ByteArray) = digT n ∧ Lib.hasPrefix (numT n).data.toList (⟨#[45]⟩ : ByteArray).data.toList = false := by
  have hp : Lib.hasPrefix (numT n).data.toList (⟨#[45]⟩ : ByteArray).data.toList = false := by
    unfold numT Lib.itoa; rw [if_neg h]; exact dec_noneg _
  refine ⟨?_, hp⟩
  unfold Lib.trimPrefix
  rw [if_neg (by rw [hp]; simp)]
  rw [numT_pos h]
/-- Zeros ahead, until there are more than m digits. -/
def padZ : Nat → Nat → ByteArray → ByteArray
  | 0, _, s => s
  | f + 1, m, s => if s.size ≤ m then padZ f m (⟨#[48]⟩ ++ s) else s
theorem padZ_more (f m : Nat) (s : ByteArray) (h : s.size ≤ m) : padZ (f + 1) m s = padZ f m (⟨#[48]⟩ ++ s) := by rw [padZ, if_pos h]
theorem padZ_done (f m : Nat) (s : ByteArray) (h : ¬ s.size ≤ m) : padZ f m s = s := by
  cases f with
  | zero => rfl
  | succ f => rw [padZ, if_neg h]
def decBody (n : Int) (m : Nat) : ByteArray := ((padZ 60 m (digT n)).extract 0 ((padZ 60 m (digT n)).size - m) ++ ⟨#[46]⟩) ++ (padZ 60 m (digT n)).extract ((padZ 60 m (digT n)).size - m) (padZ 60 m (digT n)).size
/-- The text of n times 10 to the -m. -/
def decTx (n : Int) (m : Nat) : ByteArray := if ¬ decOk n (-(m : Int)) then ⟨#[]⟩ else if m = 0 then numT n else if n < 0 then ⟨#[45]⟩ ++ decBody n m else decBody n m
def strSz : Value → Nat | .string s => s.size | _ => 0
theorem padZ_size (f m : Nat) : ∀ s : ByteArray, (padZ f m s).size ≤ s.size + f := by
  induction f with
  | zero => intro s; simp [padZ]
  | succ f ih =>
    intro s
    rw [padZ]
    split
    · have := ih (⟨#[48]⟩ ++ s)
      rw [ByteArray.size_append] at this
      have h1 : (⟨#[48]⟩ : ByteArray).size = 1 := rfl
      omega
    · omega
set_option maxHeartbeats 4000000 in
theorem spec_DecText (n : Int) (m : Nat) (w : World) (hn : I64 n) (hm : m ≤ 40) :
    Calls Tryz.prog 83 #[.agg (cF n (-(m : Int)))] w fun e w' => e = .returned (.string (decTx n m)) ∧ Below w.heap.size w w' := by
  have HN := Lib.hid hn
  obtain ⟨hn0, hn1⟩ := hn
  have H0 := Lib.hid (below1 w (.cells (cF n (-(m : Int))) 59))
  have q0 := Is.new w (cF n (-(m : Int))) 59
  have lg : w.heap.size < (w.alloc (.cells (cF n (-(m : Int))) 59)).heap.size := by simp
  go_enter Tryz.func83, Tryz.ntmps83
  go_wp2_with fail
  refine (spec_DecOk n (-(m : Int)) _ HN.out ⟨by omega, by omega⟩).mono ?_
  rintro e w2 ⟨rfl, hb2⟩
  have hl2 : w.heap.size < w2.heap.size := Nat.lt_of_lt_of_le lg hb2.size
  have p2 := q0.below hb2 lg
  obtain ⟨x0, x1⟩ := p2.cells2b
  have HB2 := Lib.hid (below_step H0.out hb2 (by simp)); clear hb2
  by_cases hok : decOk n (-(m : Int))
  · rw [decide_eq_true hok]
    by_cases h0 : m = 0
    · have HD := Lib.hid (show decTx n m = numT n from (if_neg (fun h => h hok)).trans (if_pos h0))
      subst h0
      clear hok
      go_wp2_with fail
      refine (spec_NumText n _ HN.out).mono ?_
      rintro e w3 ⟨rfl, hb3⟩
      go_wp2_with fail
      go_ret
      exact ⟨ret_s HD.out.symm, HB2.out.trans (hb3.mono HB2.out.size)⟩
    · have hd17 : digN n ≤ 17 := by
        rcases hok with h | h
        · omega
        · exact h.2.2.1
      have hdz := digT_size n
      have HD := Lib.hid (show decTx n m = if n < 0 then ⟨#[45]⟩ ++ decBody n m else decBody n m from (if_neg (fun h => h hok)).trans (if_neg h0))
      have h0' : ¬ (-(m : Int)) = 0 := by omega
      have z45 : (⟨#[45]⟩ : ByteArray).size = 1 := rfl
      have z46 : (⟨#[46]⟩ : ByteArray).size = 1 := rfl
      have z48 : (⟨#[48]⟩ : ByteArray).size = 1 := rfl
      clear hok h0
      go_wp2_with fail
      refine (spec_NumText n _ HN.out).mono ?_
      rintro e w3 ⟨rfl, hb3⟩
      have hl3 : w.heap.size < w3.heap.size := Nat.lt_of_lt_of_le hl2 hb3.size
      have p3 := p2.below hb3 hl2
      obtain ⟨y0, y1⟩ := p3.cells2b
      have HB3 := Lib.hid (HB2.out.trans (hb3.mono HB2.out.size)); clear hb3
      have HS : ∃ sg : ByteArray, sg.size ≤ 1 ∧ ((n < 0 ∧ sg = ⟨#[45]⟩ ∧ numT n = ⟨#[45]⟩ ++ digT n) ∨ (¬ n < 0 ∧ sg = ⟨#[]⟩ ∧ numT n = digT n)) := by
        by_cases h : n < 0
        · exact ⟨_, by omega, .inl ⟨h, rfl, numT_neg h⟩⟩
        · exact ⟨⟨#[]⟩, by simp [ByteArray.size], .inr ⟨h, rfl, numT_pos h⟩⟩
      obtain ⟨sg, hsg, ⟨hng, hsg2, hnm⟩ | ⟨hng, hsg2, hnm⟩⟩ := HS
      all_goals
        have hns : (numT n).size ≤ 18 := by rw [hnm]; first | (rw [ByteArray.size_append]; omega) | omega
        have hns1 : 1 ≤ (numT n).size := by rw [hnm]; first | (rw [ByteArray.size_append]; omega) | (rw [hdz, digN_eq]; omega)
        first
          | have HTL := Lib.hid (numT_tail hng)
          | have HTL := Lib.hid hnm
        clear hnm
        have HFIN : Hid (∀ d : ByteArray, padZ 60 m (digT n) = d → decTx n m = ((sg ++ d.extract 0 (d.size - m)) ++ ⟨#[46]⟩) ++ d.extract (d.size - m) d.size) := by
          intro d hd
          rw [HD.out, hsg2]
          first
            | rw [if_pos hng]
            | rw [if_neg hng]
          unfold decBody
          rw [hd]
          apply ByteArray.ext
          simp [ByteArray.data_append]
        have HEQ := Lib.hid hsg2
        clear hsg2 HD
        go_wp2_with fail
        try rw [HTL.out]
        rw [← HEQ.out]
        clear HEQ HTL hns hns1 hng
        go_loopw [3] (fun s wr => ∃ (d : ByteArray) (f : Nat), s = .string d ∧ f + d.size = 60 + digN n ∧ d.size ≤ 41 ∧ Hid (padZ 60 m (digT n) = padZ f m d) ∧ Below w3.heap.size w3 wr) (fun s _ => 60 - strSz s)
        case atStart => exact ⟨digT n, 60, rfl, by omega, by omega, rfl, Below.refl _ _⟩
        case round =>
          obtain ⟨d, f, rfl, hf, hd41, HP, hb⟩ := hrel
          have hl4 : w.heap.size < wr.heap.size := Nat.lt_of_lt_of_le hl3 hb.size
          have p4 := p3.below hb hl3
          obtain ⟨v0, v1⟩ := p4.cells2b
          by_cases hgo : d.size ≤ m
          · obtain ⟨f', rfl⟩ : ∃ f', f = f' + 1 := ⟨f - 1, by omega⟩
            have HE := Lib.hid (HP.out.trans (padZ_more f' m d hgo))
            go_wp2_with fail
            go_roundw
            case rel => exact ⟨_, f', rfl, by rw [ByteArray.size_append]; omega, by rw [ByteArray.size_append]; omega, HE.out, hb⟩
            case measure => simp only [strSz, ByteArray.size_append]; first | omega | (simp [strSz]; omega)
          · have HE := Lib.hid (HFIN.out d (HP.out.trans (padZ_done f m d hgo)))
            have hsub : (d.size : Int) + -(m : Int) = ((d.size - m : Nat) : Int) := by omega
            have hx1 : (d.extract 0 (d.size - m)).size ≤ 41 := by rw [ByteArray.size_extract]; omega
            have hx2 : (d.extract (d.size - m) d.size).size ≤ 41 := by rw [ByteArray.size_extract]; omega
            clear HP HFIN
            go_wp2_with fail
            go_quiet (fail)
            go_wp2_with fail
            go_ret
            exact ⟨ret_s HE.out.symm, (HB3.out.trans (hb.mono HB3.out.size)).trans (below_drewN _ _ _)⟩
  · have HD := Lib.hid (show decTx n m = ⟨#[]⟩ from if_pos hok)
    rw [decide_eq_false hok]
    clear hok
    go_wp2_with fail
    go_ret
    exact ⟨ret_s HD.out.symm, HB2.out⟩
set_option maxHeartbeats 4000000 in
theorem impl_DecText (n : Int) (m : Nat) (w : World) (hn : I64 n) (hm : m ≤ 40) (htab : Lib.TabBelow Tryz.prog w.heap.size w "internal/strconv.uint64pow10" .u64 Lib.pow10Tab) :
    Calls Tryz.prog 93 #[.agg (cF n (-(m : Int)))] w fun e w' => e = .returned (.string (decTx n m)) ∧ Below w.heap.size w w' := by
  have HT := Lib.hid htab; clear htab
  have HN := Lib.hid hn
  obtain ⟨hn0, hn1⟩ := hn
  have H0 := Lib.hid (below1 w (.cells (cF n (-(m : Int))) 59))
  have q0 := Is.new w (cF n (-(m : Int))) 59
  have lg : w.heap.size < (w.alloc (.cells (cF n (-(m : Int))) 59)).heap.size := by simp
  go_enter Tryz.func93, Tryz.ntmps93
  go_wp2_with fail
  refine (impl_NumText n _ HN.out (HT.out _ H0.out)).mono ?_
  rintro e w1 ⟨rfl, hb1⟩
  have hl1 : w.heap.size < w1.heap.size := Nat.lt_of_lt_of_le lg hb1.size
  have p1 := q0.below hb1 lg
  obtain ⟨o0, o1⟩ := p1.cells2b
  have HB1 := Lib.hid (below_step H0.out hb1 (by simp)); clear hb1
  go_wp2_with fail
  refine (impl_DecOk n (-(m : Int)) _ HN.out ⟨by omega, by omega⟩ (fun V hV => HT.out V (HB1.out.trans (hV.mono HB1.out.size)))).mono ?_
  rintro e w2 ⟨rfl, hb2⟩
  have hl2 : w.heap.size < w2.heap.size := Nat.lt_of_lt_of_le hl1 hb2.size
  have p2 := p1.below hb2 hl1
  obtain ⟨x0, x1⟩ := p2.cells2b
  have HB2 := Lib.hid (HB1.out.trans (hb2.mono HB1.out.size)); clear hb2 o0 o1 p1 q0
  by_cases hok : decOk n (-(m : Int))
  · rw [decide_eq_true hok]
    by_cases h0 : m = 0
    · have HD := Lib.hid (show decTx n m = numT n from (if_neg (fun h => h hok)).trans (if_pos h0))
      subst h0
      clear hok
      go_wp2_with fail
      go_ret
      exact ⟨ret_s HD.out.symm, HB2.out⟩
    · have hd17 : digN n ≤ 17 := by
        rcases hok with h | h
        · omega
        · exact h.2.2.1
      have hdz := digT_size n
      have HD := Lib.hid (show decTx n m = if n < 0 then ⟨#[45]⟩ ++ decBody n m else decBody n m from (if_neg (fun h => h hok)).trans (if_neg h0))
      have h0' : ¬ (-(m : Int)) = 0 := by omega
      have z45 : (⟨#[45]⟩ : ByteArray).size = 1 := rfl
      have z46 : (⟨#[46]⟩ : ByteArray).size = 1 := rfl
      have z48 : (⟨#[48]⟩ : ByteArray).size = 1 := rfl
      have HP60 : Hid (∀ d : ByteArray, padZ 60 m (digT n) = d → decBody n m = (d.extract 0 (d.size - m) ++ ⟨#[46]⟩) ++ d.extract (d.size - m) d.size) := by
        intro d hd
        unfold decBody
        rw [hd]
      clear hok h0
      have HS : ∃ ng : Bool, (Hid ((⟨(Lib.trimPrefix (numT n).data.toList (⟨#[45]⟩ : ByteArray).data.toList).toArray⟩ : ByteArray) = digT n) ∧ Hid (Lib.hasPrefix (numT n).data.toList (⟨#[45]⟩ : ByteArray).data.toList = ng)) ∧ Hid (decTx n m = if ng then ⟨#[45]⟩ ++ decBody n m else decBody n m) := by
        by_cases h : n < 0
        · exact ⟨true, cut_neg h, by show _ = _; rw [HD.out, if_pos h]; rfl⟩
        · exact ⟨false, cut_pos h, by show _ = _; rw [HD.out, if_neg h]; rfl⟩
      obtain ⟨ng, ⟨HC1, HC2⟩, HF⟩ := HS
      clear HD
      go_wp2_with (go_at_call 120; refine (Tryz.strings_CutPrefix _ _ _).mono ?_; rintro e w3 ⟨rfl, hw3⟩; subst w3; rw [HC1.out, HC2.out])
      go_loopw [4] (fun s wr => ∃ (d : ByteArray) (f : Nat), s = .string d ∧ f + d.size = 60 + digN n ∧ d.size ≤ 41 ∧ Hid (padZ 60 m (digT n) = padZ f m d) ∧ Below w2.heap.size w2 wr) (fun s _ => 60 - strSz s)
      case atStart => exact ⟨digT n, 60, rfl, by omega, by omega, rfl, Below.refl _ _⟩
      case round =>
        obtain ⟨d, f, rfl, hf, hd41, HP, hb⟩ := hrel
        have hl4 : w.heap.size < wr.heap.size := Nat.lt_of_lt_of_le hl2 hb.size
        have p4 := p2.below hb hl2
        obtain ⟨v0, v1⟩ := p4.cells2b
        by_cases hgo : d.size ≤ m
        · obtain ⟨f', rfl⟩ : ∃ f', f = f' + 1 := ⟨f - 1, by omega⟩
          have HE := Lib.hid (HP.out.trans (padZ_more f' m d hgo))
          go_wp2_with fail
          go_roundw
          case rel => exact ⟨_, f', rfl, by rw [ByteArray.size_append]; omega, by rw [ByteArray.size_append]; omega, HE.out, hb⟩
          case measure => simp only [strSz, ByteArray.size_append]; first | omega | (simp [strSz]; omega)
        · have HE := Lib.hid (HP60.out d (HP.out.trans (padZ_done f m d hgo)))
          have hsub : (d.size : Int) + -(m : Int) = ((d.size - m : Nat) : Int) := by omega
          have hx1 : (d.extract 0 (d.size - m)).size ≤ 41 := by rw [ByteArray.size_extract]; omega
          have hx2 : (d.extract (d.size - m) d.size).size ≤ 41 := by rw [ByteArray.size_extract]; omega
          clear HP HP60
          cases ng with
          | true =>
            have HG := Lib.hid (show decTx n m = ⟨#[45]⟩ ++ ((d.extract 0 (d.size - m) ++ ⟨#[46]⟩) ++ d.extract (d.size - m) d.size) from by rw [HF.out, if_pos rfl, HE.out])
            go_wp2_with fail
            go_quiet (fail)
            go_wp2_with fail
            go_ret
            exact ⟨ret_s HG.out.symm, (HB2.out.trans (hb.mono HB2.out.size)).trans (below_drewN _ _ _)⟩
          | false =>
            have HG := Lib.hid (show decTx n m = ((d.extract 0 (d.size - m) ++ ⟨#[46]⟩) ++ d.extract (d.size - m) d.size) from by rw [HF.out, if_neg (by simp), HE.out])
            go_wp2_with fail
            go_quiet (fail)
            go_wp2_with fail
            go_ret
            exact ⟨ret_s HG.out.symm, (HB2.out.trans (hb.mono HB2.out.size)).trans (below_drewN _ _ _)⟩
  · have HD := Lib.hid (show decTx n m = ⟨#[]⟩ from if_pos hok)
    rw [decide_eq_false hok]
    clear hok
    go_wp2_with fail
    go_ret
    exact ⟨ret_s HD.out.symm, HB2.out⟩
/-- The text of a floating-point number. -/
def fltTx (m e : Int) : ByteArray := if fltOk m e then decTx (fltDecD m e).1 (-(fltDecD m e).2).toNat else ⟨#[]⟩
set_option maxHeartbeats 1000000 in
theorem spec_FltText (m e : Int) (w : World) (hm : I64 m) (he : I64 e) :
    Calls Tryz.prog 84 #[.agg (cF m e)] w fun ee w' => ee = .returned (.string (fltTx m e)) ∧ Below w.heap.size w w' := by
  have HM := Lib.hid hm; have HE := Lib.hid he
  obtain ⟨hm0, hm1⟩ := hm
  obtain ⟨he0, he1⟩ := he
  have H0 := Lib.hid (below1 w (.cells (cF m e) 56))
  have q0 := Is.new w (cF m e) 56
  have lg : w.heap.size < (w.alloc (.cells (cF m e) 56)).heap.size := by simp
  go_enter Tryz.func84, Tryz.ntmps84
  go_wp2_with fail
  refine (spec_FltOk m e _ HM.out HE.out).mono ?_
  rintro ee w2 ⟨rfl, hb2⟩
  have hl2 : w.heap.size < w2.heap.size := Nat.lt_of_lt_of_le lg hb2.size
  have p2 := q0.below hb2 lg
  obtain ⟨x0, x1⟩ := p2.cells2b
  have HB2 := Lib.hid (below_step H0.out hb2 (by simp)); clear hb2
  by_cases hok : fltOk m e
  · have HD := Lib.hid (show fltTx m e = decTx (fltDecD m e).1 (-(fltDecD m e).2).toNat from if_pos hok)
    rw [decide_eq_true hok]
    clear hok
    have hbox := fltDecD_box m e
    go_wp2_with fail
    refine (spec_FltDec m e _ HM.out HE.out).mono ?_
    rintro ee w3 ⟨rfl, hb3⟩
    have HB3 := Lib.hid (HB2.out.trans (hb3.mono HB2.out.size)); clear hb3
    obtain ⟨k, hk⟩ : ∃ k : Nat, (fltDecD m e).2 = -(k : Int) := ⟨(-(fltDecD m e).2).toNat, by omega⟩
    have hk2 : (-(fltDecD m e).2).toNat = k := by omega
    rw [hk2] at HD
    rw [hk] at hbox ⊢
    have HX := Lib.hid hbox.1
    have hk40 : k ≤ 40 := by omega
    clear hbox hk hk2
    generalize (fltDecD m e).1 = N at *
    go_wp2_with fail
    refine (spec_DecText N k _ HX.out hk40).mono ?_
    rintro ee w4 ⟨rfl, hb4⟩
    go_wp2_with fail
    go_ret
    exact ⟨ret_s HD.out.symm, HB3.out.trans (hb4.mono HB3.out.size)⟩
  · have HD := Lib.hid (show fltTx m e = ⟨#[]⟩ from if_neg hok)
    rw [decide_eq_false hok]
    clear hok
    go_wp2_with fail
    go_ret
    exact ⟨ret_s HD.out.symm, HB2.out⟩
set_option maxHeartbeats 1000000 in
theorem impl_FltText (m e : Int) (w : World) (hm : I64 m) (he : I64 e) (htab : Lib.TabBelow Tryz.prog w.heap.size w "internal/strconv.uint64pow10" .u64 Lib.pow10Tab) :
    Calls Tryz.prog 97 #[.agg (cF m e)] w fun ee w' => ee = .returned (.string (fltTx m e)) ∧ Below w.heap.size w w' := by
  have HT := Lib.hid htab; clear htab
  have HM := Lib.hid hm; have HE := Lib.hid he
  obtain ⟨hm0, hm1⟩ := hm
  obtain ⟨he0, he1⟩ := he
  have H0 := Lib.hid (below1 w (.cells (cF m e) 56))
  have q0 := Is.new w (cF m e) 56
  have lg : w.heap.size < (w.alloc (.cells (cF m e) 56)).heap.size := by simp
  go_enter Tryz.func97, Tryz.ntmps97
  go_wp2_with fail
  refine (impl_FltOk m e _ HM.out HE.out).mono ?_
  rintro ee w2 ⟨rfl, hb2⟩
  have hl2 : w.heap.size < w2.heap.size := Nat.lt_of_lt_of_le lg hb2.size
  have p2 := q0.below hb2 lg
  obtain ⟨x0, x1⟩ := p2.cells2b
  have HB2 := Lib.hid (below_step H0.out hb2 (by simp)); clear hb2
  by_cases hok : fltOk m e
  · have HD := Lib.hid (show fltTx m e = decTx (fltDecD m e).1 (-(fltDecD m e).2).toNat from if_pos hok)
    rw [decide_eq_true hok]
    clear hok
    have hbox := fltDecD_box m e
    go_wp2_with fail
    refine (impl_FltDec m e _ HM.out HE.out (fun V hV => HT.out V (HB2.out.trans (hV.mono HB2.out.size)))).mono ?_
    rintro ee w3 ⟨rfl, hb3⟩
    have HB3 := Lib.hid (HB2.out.trans (hb3.mono HB2.out.size)); clear hb3
    obtain ⟨k, hk⟩ : ∃ k : Nat, (fltDecD m e).2 = -(k : Int) := ⟨(-(fltDecD m e).2).toNat, by omega⟩
    have hk2 : (-(fltDecD m e).2).toNat = k := by omega
    rw [hk2] at HD
    rw [hk] at hbox ⊢
    have HX := Lib.hid hbox.1
    have hk40 : k ≤ 40 := by omega
    clear hbox hk hk2
    generalize (fltDecD m e).1 = N at *
    go_wp2_with fail
    refine (impl_DecText N k _ HX.out hk40 (fun V hV => HT.out V (HB3.out.trans (hV.mono HB3.out.size)))).mono ?_
    rintro ee w4 ⟨rfl, hb4⟩
    go_wp2_with fail
    go_ret
    exact ⟨ret_s HD.out.symm, HB3.out.trans (hb4.mono HB3.out.size)⟩
  · have HD := Lib.hid (show fltTx m e = ⟨#[]⟩ from if_neg hok)
    rw [decide_eq_false hok]
    clear hok
    go_wp2_with fail
    go_ret
    exact ⟨ret_s HD.out.symm, HB2.out⟩
end Go.Proofs.YthpmfkkmhbbloaaGreatDoor
namespace Go.Proofs.YthpmfkkmhbbloaaGreatDoor
open Go.ChangeShapes Go.WideShapes Go.ChangeAt Go.RowKit Go.Joins
set_option linter.unusedVariables false
set_option maxRecDepth 100000
/-- A value without elements, as text. -/
def leafT (k n x : Int) (s : ByteArray) : ByteArray := if k = 2 then (if n = 1 then ⟨#[116, 114, 117, 101]⟩ else ⟨#[102, 97, 108, 115, 101]⟩) else if k = 3 then numT n else if k = 6 then decTx n (-x).toNat else if k = 4 then fltTx n x else if k = 7 then quoteT s else ⟨#[110, 117, 108, 108]⟩
def sepT (mp : Bool) (i : Nat) : ByteArray := if i = 0 then ⟨#[]⟩ else if mp = true ∧ i % 2 = 1 then ⟨#[58]⟩ else ⟨#[44]⟩
mutual
def writeT : T → ByteArray
  | .mk k n x s l => if k = 9 then (⟨#[91]⟩ ++ writesT false 0 l) ++ ⟨#[93]⟩ else if k = 10 then (⟨#[123]⟩ ++ writesT true 0 l) ++ ⟨#[125]⟩ else leafT k n x s
def writesT (mp : Bool) : Nat → List T → ByteArray
  | _, [] => ⟨#[]⟩
  | i, t :: r => (sepT mp i ++ writeT t) ++ writesT mp (i + 1) r
end
theorem writesT_succ (mp : Bool) : ∀ (l : List T) (i j : Nat) (h : j < l.length), writesT mp i (l.take (j + 1)) = writesT mp i (l.take j) ++ (sepT mp (i + j) ++ writeT l[j]) := by
  intro l
  induction l with
  | nil => intro i j h; simp at h
  | cons t r ih =>
    intro i j h
    cases j with
    | zero => apply ByteArray.ext; simp [writesT, ByteArray.data_append]
    | succ j =>
      have := ih (i + 1) j (by simpa using h)
      simp only [List.take_succ_cons, writesT, List.getElem_cons_succ]
      rw [this, show i + 1 + j = i + (j + 1) from by omega]
      simp only [ByteArray.append_assoc]
/-- What can be written. -/
def wrP (t : T) : Prop := (t.k = 1 ∨ t.k = 2 ∨ t.k = 4 ∨ t.k = 7 ∨ t.k = 9 ∨ t.k = 10) ∨ (t.k = 3 ∧ -1000000000000000 ≤ t.n ∧ t.n ≤ 1000000000000000) ∨ (t.k = 6 ∧ -16 ≤ t.x ∧ t.x ≤ 0)
instance (t : T) : Decidable (wrP t) := by unfold wrP; exact inferInstance
theorem allB_mono {p q : T → Bool} (h : ∀ t, p t = true → q t = true) : ∀ t, allB p t = true → allB q t = true := by
  intro t
  induction t using T.ind with
  | h k n x s l ih =>
    rw [allB_eq, allB_eq]
    simp only [Bool.and_eq_true, List.all_eq_true, T.l]
    rintro ⟨h1, h2⟩
    exact ⟨h _ h1, fun t ht => ih t ht (h2 t ht)⟩
theorem allB_both {p q : T → Bool} : ∀ t, allB p t = true → allB q t = true → allB (fun t => p t && q t) t = true := by
  intro t
  induction t using T.ind with
  | h k n x s l ih =>
    rw [allB_eq, allB_eq, allB_eq]
    simp only [Bool.and_eq_true, List.all_eq_true, T.l]
    rintro ⟨h1, h2⟩ ⟨h3, h4⟩
    exact ⟨⟨h1, h3⟩, fun t ht => ih t ht (h2 t ht) (h4 t ht)⟩
theorem decTx_size (n : Int) (m : Nat) : (decTx n m).size ≤ 200 := by
  unfold decTx
  by_cases h : decOk n (-(m : Int))
  · have hd : digN n ≤ 20 := by
      unfold decOk at h
      rcases h with ⟨_, h1, h2⟩ | ⟨_, _, h1, _⟩
      · exact digN_le n ⟨by omega, by omega⟩
      · omega
    have h1 := digT_size n
    have h2 := padZ_size 60 m (digT n)
    have z1 : (⟨#[45]⟩ : ByteArray).size = 1 := rfl
    have z2 : (⟨#[46]⟩ : ByteArray).size = 1 := rfl
    rw [if_neg (fun hn => hn h)]
    by_cases h0 : m = 0
    · rw [if_pos h0]
      by_cases hn : n < 0
      · rw [numT_neg hn, ByteArray.size_append]; omega
      · rw [numT_pos hn]; omega
    · rw [if_neg h0]
      unfold decBody
      split
      · simp only [ByteArray.size_append, ByteArray.size_extract]; omega
      · simp only [ByteArray.size_append, ByteArray.size_extract]; omega
  · rw [if_pos h]; exact Nat.zero_le _
theorem fltTx_size (m e : Int) : (fltTx m e).size ≤ 200 := by
  unfold fltTx
  split
  · exact decTx_size _ _
  · exact Nat.zero_le _
theorem quoteT_size (s : ByteArray) : (quoteT s).size ≤ 2 + 12 * s.size := by
  unfold quoteT
  split
  · have h1 : ∀ (l : List Int) j, (escF l j).size ≤ 12 * j := by
      intro l j
      induction j with
      | zero => exact Nat.le_refl _
      | succ j ih => rw [escF, ByteArray.size_append]; have := escT_size (l.getD j 0); omega
    have h2 := h1 (runesT s) (runesT s).length
    have h3 := runesG_len s.size s.data.toList
    have z1 : (⟨#[34]⟩ : ByteArray).size = 1 := rfl
    rw [ByteArray.size_append, ByteArray.size_append]
    unfold runesT at *
    omega
  · exact Nat.zero_le _
theorem leafT_size (t : T) (h : wrP t) : (leafT t.k t.n t.x t.s).size ≤ 200 + 12 * t.s.size := by
  unfold leafT
  split
  · split
    · exact Nat.le_trans (show (4 : Nat) ≤ 200 by omega) (Nat.le_add_right _ _)
    · exact Nat.le_trans (show (5 : Nat) ≤ 200 by omega) (Nat.le_add_right _ _)
  · split
    · have := numT_size (n := t.n) (by unfold wrP at h; exact ⟨by omega, by omega⟩); omega
    · split
      · have := decTx_size t.n (-t.x).toNat; omega
      · split
        · have := fltTx_size t.n t.x; omega
        · split
          · have := quoteT_size t.s; omega
          · exact Nat.le_trans (show (4 : Nat) ≤ 200 by omega) (Nat.le_add_right _ _)
theorem sepT_size (mp : Bool) (i : Nat) : (sepT mp i).size ≤ 1 := by
  unfold sepT
  split
  · exact Nat.zero_le _
  · split
    · exact Nat.le_refl _
    · exact Nat.le_refl _
theorem writeT_size : ∀ t : T, allB (fun t => decide (wrP t)) t = true → (writeT t).size + 9 ≤ 300 * (1 + T.sz t) := by
  intro t
  induction t using T.ind with
  | h k n x s l ih =>
    intro h
    rw [allB_eq] at h
    simp only [Bool.and_eq_true, List.all_eq_true, T.l, decide_eq_true_eq] at h
    obtain ⟨h1, h2⟩ := h
    have key : ∀ (mp : Bool) (r : List T) (i : Nat), (∀ t ∈ r, t ∈ l) → (writesT mp i r).size ≤ 300 * T.szL r := by
      intro mp r
      induction r with
      | nil => intro i _; exact Nat.zero_le _
      | cons t r ihr =>
        intro i hm
        have a1 := ihr (i + 1) (fun t ht => hm t (List.mem_cons_of_mem _ ht))
        have a2 := ih t (hm t (List.mem_cons_self ..)) (h2 t (hm t (List.mem_cons_self ..)))
        have a3 := sepT_size mp i
        simp only [writesT, ByteArray.size_append, T.szL]
        omega
    have e1 := key false l 0 (fun _ h => h)
    have e2 := key true l 0 (fun _ h => h)
    have e3 := leafT_size (.mk k n x s l) h1
    have z1 : (⟨#[91]⟩ : ByteArray).size = 1 := rfl
    have z2 : (⟨#[93]⟩ : ByteArray).size = 1 := rfl
    have z3 : (⟨#[123]⟩ : ByteArray).size = 1 := rfl
    have z4 : (⟨#[125]⟩ : ByteArray).size = 1 := rfl
    simp only [T.k, T.n, T.x, T.s] at e3
    rw [writeT, sz_of]
    split
    · rw [ByteArray.size_append, ByteArray.size_append]; omega
    · split
      · rw [ByteArray.size_append, ByteArray.size_append]; omega
      · omega
theorem writesT_size (mp : Bool) (l : List T) (h : ∀ t ∈ l, allB (fun t => decide (wrP t)) t = true) : ∀ (r : List T) (i : Nat), (∀ t ∈ r, t ∈ l) → (writesT mp i r).size ≤ 300 * T.szL r := by
  intro r
  induction r with
  | nil => intro i _; exact Nat.zero_le _
  | cons t r ihr =>
    intro i hm
    have a1 := ihr (i + 1) (fun t ht => hm t (List.mem_cons_of_mem _ ht))
    have a2 := writeT_size t (h t (hm t (List.mem_cons_self ..)))
    have a3 := sepT_size mp i
    simp only [writesT, ByteArray.size_append, T.szL]
    omega
end Go.Proofs.YthpmfkkmhbbloaaGreatDoor
namespace Go.Proofs.YthpmfkkmhbbloaaGreatDoor
open Go.ChangeShapes Go.WideShapes Go.ChangeAt Go.RowKit Go.Joins
set_option linter.unusedVariables false
set_option maxRecDepth 100000
theorem iterAt_other (w : World) (k : Nat) (s : ByteArray) (p f : Nat) (h : f ≠ k) : (w.iterAt k s p).heap[f]? = w.heap[f]? := by
  simp [World.iterAt, Ne.symm h]
theorem iterAt_size (w : World) (k : Nat) (s : ByteArray) (p : Nat) : (w.iterAt k s p).heap.size = w.heap.size := by
  simp [World.iterAt]
theorem iterAt_below (w : World) (k : Nat) (s : ByteArray) (p B : Nat) (h : B ≤ k) : Below B w (w.iterAt k s p) :=
  ⟨rfl, rfl, rfl, by rw [iterAt_size]; exact Nat.le_refl _, fun f hf => iterAt_other w k s p f (by omega)⟩
theorem AppL.iter {w : World} {rlo cap k p p' : Nat} {s : ByteArray} {e : TypeId} {a : Option Addr} {l : List Int} (h : AppL EByte 1 e w rlo a cap l []) (hk : w.heap[k]? = Option.some (.stringIter s p)) : AppL EByte 1 e (w.iterAt k s p') rlo a cap l [] := by
  rcases h with h | ⟨g, cur, ha, h1, h3, h4, h5, h6, h7, h8⟩
  · exact Or.inl h
  · have hg : g ≠ k := by rintro rfl; rw [hk] at h3; cases h3
    exact Or.inr ⟨g, cur, ha, h1, (iterAt_other w k s p' g hg).trans h3, h4, h5, h6, h7.agree EByte.elem.loc l (Cells.of_block (iterAt_other w k s p' g hg) _ _) (fun f hf => by simp at hf), h8⟩
theorem AppL.notIter {w : World} {rlo cap k p : Nat} {s : ByteArray} {e : TypeId} {a : Option Addr} {l : List Int} (h : AppL EByte 1 e w rlo a cap l []) (hk : w.heap[k]? = Option.some (.stringIter s p)) : ∀ j, (Value.slice a l.length cap).ownBlock = Option.some j → k ≠ j := by
  intro j hj
  rcases h with ⟨rfl, rfl, rfl, _⟩ | ⟨g, cur, rfl, h1, h3, h4, h5, h6, h7, h8⟩
  · simp [Value.ownBlock] at hj
  · simp only [Value.ownBlock, Option.some.injEq] at hj
    subst hj
    rintro rfl; rw [hk] at h3; cases h3
theorem row34 : byteL ⟨#[34]⟩ = [34] := rfl
set_option maxHeartbeats 4000000 in
theorem impl_Quote (s : ByteArray) (w : World) (hs : s.size ≤ 1048576) (hU : UtfBelow w.heap.size w) :
    Calls Tryz.prog 94 #[.string s] w fun e w' => e = .returned (.string (quoteT s)) ∧ Below w.heap.size w w' := by
  by_cases hv : Lib.validD s.data.toList = true
  · have HD := Lib.hid (show quoteT s = (⟨#[34]⟩ ++ escF (runesT s) (runesT s).length) ++ ⟨#[34]⟩ from if_pos hv)
    have hlr : (runesT s).length ≤ 1048576 := by have := runesG_len s.size s.data.toList; unfold runesT; omega
    have HV := Lib.hid hv; clear hv
    go_enter Tryz.func94, Tryz.ntmps94
    go_wp2_with fail
    refine (impl_TextOk s _ (by omega) (hU _ (Below.refl _ _))).mono ?_
    rintro e w1 ⟨rfl, hb1⟩
    rw [HV.out]
    have HB1 := Lib.hid hb1; clear hb1
    have hs1 := HB1.out.size
    go_wp2_with fail
    have h0 : AppL EByte 1 5 (w1.alloc (.cells #[.int .u8 34] 5)) w1.heap.size (some ⟨w1.heap.size, 0, none⟩) 1 [34] [] :=
      Or.inr ⟨w1.heap.size, #[.int .u8 34], rfl, Nat.le_refl _, heap_alloc_new w1 _, by simp, by simp [maxLen], rfl, ⟨[], [], rfl, ⟨rfl, (Is.new w1 #[.int .u8 34] 5).cell 0 rfl, ⟨by omega, by omega⟩⟩, rfl⟩, by simp⟩
    generalize hW : (w1.alloc (.cells #[.int .u8 34] 5)).iter s 0 = W0
    have HA0 := Lib.hid (show AppL EByte 1 5 W0 w1.heap.size (some ⟨w1.heap.size, 0, none⟩) 1 [34] [] from by subst hW; exact h0.agree EByte.elem (fun f hf => (below1 (w1.alloc (.cells #[.int .u8 34] 5)) (.stringIter s 0)).block f hf) (by simp))
    have hI0 : W0.heap[w1.heap.size + 1]? = some (.stringIter s 0) := by
      subst hW
      have := World.iter_heap (w1.alloc (.cells #[.int .u8 34] 5)) s 0
      simpa using this
    have H0 := Lib.hid (show Below w1.heap.size w1 W0 from by subst hW; exact below2 _ _ _)
    have hsW : W0.heap.size = w1.heap.size + 2 := by subst hW; simp [World.iter]
    clear hW h0
    have z34 : (⟨#[34]⟩ : ByteArray).size = 1 := rfl
    have HLEN := Lib.hid (Lib.size_eq s)
    go_loopw [3, 5] (fun q _ wr => ∃ (p f j : Nat) (ar : Option Addr) (cr : Nat) (o : ByteArray), p ≤ s.size ∧ q = .slice ar (byteL o).length cr ∧ AppL EByte 1 5 wr w1.heap.size ar cr (byteL o) [] ∧ wr.heap[w1.heap.size + 1]? = some (.stringIter s p) ∧ j ≤ p ∧ j ≤ (runesT s).length ∧ o.size ≤ 1 + 12 * j ∧ s.size - p ≤ f ∧ Hid (o = ⟨#[34]⟩ ++ escF (runesT s) j) ∧ Hid ((runesT s).drop j = runesG f (s.data.toList.drop p)) ∧ Hid (Lib.validD (s.data.toList.drop p) = true) ∧ Below w1.heap.size w1 wr) (fun _ _ wr => s.size - wr.iterPos (w1.heap.size + 1))
    case atStart => exact ⟨0, s.size, 0, _, _, ⟨#[34]⟩, Nat.zero_le _, rfl, HA0.out, hI0, Nat.le_refl _, Nat.zero_le _, by omega, by omega, rfl, rfl, by rw [List.drop_zero]; exact HV.out, H0.out⟩
    case round =>
      obtain ⟨p, f, j, ar, cr, o, hp, rfl, happ, hIp, hjp, hjl, hos, hf, HO, HR, HVP, hb⟩ := hrel
      have hbs := hb.size
      have HA := Lib.hid happ; clear happ
      have hblen := byteL_len o
      by_cases hlt : p < s.size
      · obtain ⟨f', rfl⟩ : ∃ f', f = f' + 1 := ⟨f - 1, by omega⟩
        have hne : s.data.toList.drop p ≠ [] := by
          intro e
          have := congrArg List.length e
          simp only [List.length_drop, List.length_nil] at this; have := HLEN.out; omega
        have HG := Lib.hid (validD_gr _ hne)
        have HL := Lib.hid (grL_cases _ hne)
        have hz : (grL (s.data.toList.drop p)).2 ≠ 0 := by
          intro h
          have h1 := HG.out
          rw [if_pos h, HVP.out] at h1
          cases h1
        have hdec : Utf8.decode s p = grL (s.data.toList.drop p) := by
          rcases HL.out with h | h
          · exact absurd h.1 hz
          · rw [← Lib.decodeL_drop]; exact h.2.1
        have hk : (grL (s.data.toList.drop p)).2 ≤ s.size - p := by
          rcases HL.out with h | h
          · exact absurd h.1 hz
          · have := h.2.2.1; simp only [List.length_drop] at this; have := HLEN.out; omega
        have HVN := Lib.hid (show Lib.validD (s.data.toList.drop (p + (grL (s.data.toList.drop p)).2)) = true from by
          have h1 := HG.out
          rw [if_neg hz, HVP.out, List.drop_drop] at h1
          exact h1.symm)
        have hrc := HR.out
        rw [runesG_cons f' _ hne, List.drop_drop] at hrc
        have hjl2 : j < (runesT s).length := by
          rcases Nat.lt_or_ge j (runesT s).length with h | h
          · exact h
          · rw [List.drop_eq_nil_of_le h] at hrc; cases hrc
        rw [List.drop_eq_getElem_cons hjl2] at hrc
        injection hrc with hr1 hr2
        have HRN := Lib.hid hr2
        have HE := Lib.hid (show o ++ escT ((grL (s.data.toList.drop p)).1 : Int) = ⟨#[34]⟩ ++ escF (runesT s) (j + 1) from by rw [HO.out, escF_succ _ j hjl2, hr1, ByteArray.append_assoc])
        have hsm := grL_small (s.data.toList.drop p)
        have hnx : ∀ ty, (Instr.next (.pointer (some ⟨w1.heap.size + 1, 0, none⟩)) true ty).run Tryz.prog wr = .ok (.tuple #[.bool true, .int .i64 p, .int .i32 (grL (s.data.toList.drop p)).1]) (wr.iterAt (w1.heap.size + 1) s (p + (grL (s.data.toList.drop p)).2)) := fun ty => by
          rw [Lib.run_next_any_at wr (w1.heap.size + 1) s p ty hIp hlt, hdec]
        have hlk := (Array.getElem?_eq_some_iff.1 hIp).1
        have HIP := Lib.hid hIp
        have HZ := Lib.hid hz
        have hez := escT_size ((grL (s.data.toList.drop p)).1 : Int)
        clear HG HL hdec hne hr1 hr2 hz
        generalize grL (s.data.toList.drop p) = g at *
        have HA2 := Lib.hid (AppL.iter (p' := p + g.2) HA.out HIP.out)
        have hI2 := Lib.iterAt_heap wr (w1.heap.size + 1) s p (p + g.2) hIp
        have HB2 := Lib.hid (iterAt_below wr (w1.heap.size + 1) s (p + g.2) w1.heap.size (by omega))
        have hsz2 := iterAt_size wr (w1.heap.size + 1) s (p + g.2)
        have HI2 := Lib.hid hI2; clear hI2 hIp
        go_wp2_with (first | (go_at_call 121; refine (impl_EscapeOf _ _ ⟨by omega, by omega⟩).mono ?_; rintro e w5 ⟨rfl, hb5⟩; have hs5 := hb5.size; have HA5 := Lib.hid (HA2.out.agree EByte.elem (fun f hf => hb5.block f hf) (by omega)); have HI5 := Lib.hid ((hb5.block (w1.heap.size + 1) (by omega)).trans HI2.out); have HB5 := Lib.hid ((hb.trans HB2.out).trans (hb5.mono (by omega)))) | (at_builtin; refine wpList_appStr rfl _ _ 33 9 rfl Tryz.underlying33 Tryz.underlying9 info_Byte2 w1.heap.size ar cr (byteL o) (byteL_u8 o) (by first | rfl | (rw [hblen]; rfl)) HA5.out (by omega) (escT (g.1 : Int)) rfl (by rw [hblen]; omega) ?_; intro ar2 cr2 w6 happ6 hb6 hout6 hsz6))
        go_roundw
        case rel => exact ⟨p + g.2, f', j + 1, ar2, cr2, o ++ escT (g.1 : Int), by omega, by rw [byteL_len (o ++ _), ByteArray.size_append, byteL_len], by rw [byteL_append]; exact happ6, (hout6 (w1.heap.size + 1) (by omega) (AppL.notIter HA5.out HI5.out)).trans HI5.out, by have := HZ.out; omega, by omega, by rw [ByteArray.size_append]; omega, by have := HZ.out; omega, HE.out, HRN.out, HVN.out, HB5.out.trans hb6⟩
        case measure =>
          have e1 : w6.iterPos (w1.heap.size + 1) = p + g.2 := by
            unfold World.iterPos; rw [(hout6 (w1.heap.size + 1) (by omega) (AppL.notIter HA5.out HI5.out)).trans HI5.out]
          have e2 : wr.iterPos (w1.heap.size + 1) = p := by unfold World.iterPos; rw [HIP.out]
          rw [e1, e2]; have := HZ.out; omega
      · have hnx : ∀ ty, (Instr.next (.pointer (some ⟨w1.heap.size + 1, 0, none⟩)) true ty).run Tryz.prog wr = .ok (.tuple #[.bool false]) wr := fun ty => Lib.run_next_end_at wr (w1.heap.size + 1) s p ty hIp hlt
        have hpp : p = s.size := by omega
        have hje : j = (runesT s).length := by
          have h1 := HR.out
          rw [List.drop_eq_nil_of_le (show s.data.toList.length ≤ p from by have := HLEN.out; omega), runesG_nil] at h1
          have := List.drop_eq_nil_iff.1 h1
          omega
        have HE := Lib.hid (show o ++ ⟨#[34]⟩ = quoteT s from by rw [HD.out, HO.out, hje])
        clear hje hpp
        have HN := Lib.hid (HA.out.agree EByte.elem (fun f hf => (below1 wr (.cells #[.int .u8 34] 5)).block f hf) (by omega))
        go_wp2_with (at_builtin; refine wpList_appL EByte.elem rfl _ _ 33 rfl (.int .u8 0) 1 Tryz.underlying33 info_Byte2 rfl w1.heap.size ar cr (byteL o) [] (by first | rfl | (rw [hblen]; rfl)) HN.out (by simp; omega) wr.heap.size 0 1 1 [34] [] rfl rfl ⟨[], [], rfl, ⟨rfl, (Is.new wr #[.int .u8 34] 5).cell 0 rfl, ⟨by omega, by omega⟩⟩, rfl⟩ (by simp) (by omega) (by rw [hblen]; unfold maxLen; omega) (by rw [hblen]; omega) ?_; intro ar2 cr2 w6 happ6 hb6; have hcv := conv_bytes w6 w1.heap.size ar2 cr2 _ [] happ6; rw [← row34, ← byteL_append, byteL_str, byteL_len, ByteArray.size_append, z34] at hcv)
        go_ret
        exact ⟨ret_s HE.out, HB1.out.trans ((hb.trans (((below1 wr _).mono hbs).trans hb6)).mono HB1.out.size)⟩
  · have HD := Lib.hid (show quoteT s = ⟨#[]⟩ from if_neg hv)
    have HV := Lib.hid (show Lib.validD s.data.toList = false from by simpa using hv); clear hv
    go_enter Tryz.func94, Tryz.ntmps94
    go_wp2_with fail
    refine (impl_TextOk s _ (by omega) (hU _ (Below.refl _ _))).mono ?_
    rintro e w1 ⟨rfl, hb1⟩
    rw [HV.out]
    go_wp2_with fail
    go_ret
    exact ⟨ret_s HD.out.symm, hb1⟩
end Go.Proofs.YthpmfkkmhbbloaaGreatDoor
namespace Go.Proofs.YthpmfkkmhbbloaaGreatDoor
open Go.ChangeShapes Go.WideShapes Go.ChangeAt Go.RowKit Go.Joins
set_option linter.unusedVariables false
set_option maxRecDepth 100000
theorem impl_boolText (n : Int) (w : World) (hn : I64 n) : Calls Tryz.prog 91 #[.int .i64 n] w fun e w' => e = .returned (.string (if n = 1 then ⟨#[116, 114, 117, 101]⟩ else ⟨#[102, 97, 108, 115, 101]⟩)) ∧ Below w.heap.size w w' := by
  obtain ⟨hn0, hn1⟩ := hn
  by_cases h1 : n = 1
  · subst h1
    rw [if_pos rfl]
    go_enter Tryz.func91, Tryz.ntmps91
    go_wp2_with fail
    go_ret
    exact ⟨rfl, Below.refl _ _⟩
  · rw [if_neg h1]
    go_enter Tryz.func91, Tryz.ntmps91
    go_wp2_with fail
    go_ret
    exact ⟨rfl, Below.refl _ _⟩
set_option maxHeartbeats 2000000 in
theorem impl_leafText (t : T) (a : Option Addr) (cap B : Nat) (w : World) (hr : R w B a cap t.l) (hwf : Wf t) (hsz : T.sz t ≤ 1048576) (he : Env B w) (hB : B ≤ w.heap.size) (hp : wrP t) (h4 : t.k ≠ 4) (h9 : t.k ≠ 9) (h10 : t.k ≠ 10) :
    Calls Tryz.prog 57 #[.agg (cV t a cap)] w fun e w' => e = .returned (.string (leafT t.k t.n t.x t.s)) ∧ Below w.heap.size w w' := by
  cases t with
  | mk k n x s l =>
    obtain ⟨hk, hn, hx, hsm⟩ := hwf
    simp only [wrP, T.k, T.n, T.x] at hp
    simp only [cV, T.k, T.n, T.x, T.s, T.l] at hr hk hn hx hsm h4 h9 h10 ⊢
    obtain ⟨hk0, hk1⟩ := hk
    rw [sz_of] at hsz
    obtain ⟨hlc, hcap⟩ := hr.len
    clear hr
    have H0 := Lib.hid (below1 w (.cells #[Value.int IntKind.i64 k, Value.int IntKind.i64 n, Value.int IntKind.i64 x, Value.string s, Value.slice a l.length cap] 29))
    have HE := Lib.hid ((he.step (H0.out.mono hB)).here (w := w.alloc _) (by simp; omega))
    clear he
    have HN := Lib.hid hn
    have HX := Lib.hid hx
    obtain ⟨hn0, hn1⟩ := hn
    obtain ⟨hx0, hx1⟩ := hx
    have c1 : k = 1 ∨ k = 2 ∨ k = 3 ∨ k = 6 ∨ k = 7 := by omega
    clear h4 h9 h10
    obtain rfl | rfl | rfl | rfl | rfl := c1
    · have HD := Lib.hid (show leafT 1 n x s = ⟨#[110, 117, 108, 108]⟩ from rfl)
      go_enter Tryz.func57, Tryz.ntmps57
      go_wp2_with fail
      go_ret
      exact ⟨ret_s HD.out.symm, H0.out⟩
    · have HD := Lib.hid (show leafT 2 n x s = if n = 1 then ⟨#[116, 114, 117, 101]⟩ else ⟨#[102, 97, 108, 115, 101]⟩ from rfl)
      go_enter Tryz.func57, Tryz.ntmps57
      go_wp2_with fail
      refine (impl_boolText n _ HN.out).mono ?_
      rintro e w2 ⟨rfl, hb2⟩
      rw [← HD.out]
      have HB2 := Lib.hid (below_step H0.out hb2 (by simp)); clear hb2
      go_wp2_with fail
      go_ret
      exact ⟨rfl, HB2.out⟩
    · have HD := Lib.hid (show leafT 3 n x s = numT n from rfl)
      go_enter Tryz.func57, Tryz.ntmps57
      go_wp2_with fail
      refine (impl_NumText n _ HN.out (HE.out.1 _ (Below.refl _ _))).mono ?_
      rintro e w2 ⟨rfl, hb2⟩
      have HB2 := Lib.hid (below_step H0.out hb2 (by simp)); clear hb2
      go_wp2_with fail
      go_ret
      exact ⟨ret_s HD.out.symm, HB2.out⟩
    · obtain ⟨m, rfl⟩ : ∃ m : Nat, x = -(m : Int) := ⟨(-x).toNat, by omega⟩
      have HD := Lib.hid (show leafT 6 n (-(m : Int)) s = decTx n m from by
        simp only [leafT]
        simp)
      have hm40 : m ≤ 40 := by omega
      go_enter Tryz.func57, Tryz.ntmps57
      go_wp2_with fail
      refine (impl_DecText n m _ HN.out hm40 HE.out.1).mono ?_
      rintro e w2 ⟨rfl, hb2⟩
      have HB2 := Lib.hid (below_step H0.out hb2 (by simp)); clear hb2
      go_wp2_with fail
      go_ret
      exact ⟨ret_s HD.out.symm, HB2.out⟩
    · have HD := Lib.hid (show leafT 7 n x s = quoteT s from rfl)
      go_enter Tryz.func57, Tryz.ntmps57
      go_wp2_with fail
      refine (impl_Quote s _ (by omega) HE.out.2).mono ?_
      rintro e w2 ⟨rfl, hb2⟩
      have HB2 := Lib.hid (below_step H0.out hb2 (by simp)); clear hb2
      go_wp2_with fail
      go_ret
      exact ⟨ret_s HD.out.symm, HB2.out⟩
set_option maxHeartbeats 2000000 in
theorem impl_leafPlain (t : T) (a : Option Addr) (cap B : Nat) (w : World) (hr : R w B a cap t.l) (hwf : Wf t) (hsz : T.sz t ≤ 1048576) (he : Env B w) (hB : B ≤ w.heap.size) (hp : wrP t) (h9 : t.k ≠ 9) (h10 : t.k ≠ 10) :
    Calls Tryz.prog 60 #[.agg (cV t a cap)] w fun e w' => e = .returned (.string (leafT t.k t.n t.x t.s)) ∧ Below w.heap.size w w' := by
  have H0 := Lib.hid (below1 w (.cells (cV t a cap) 29))
  by_cases h4 : t.k = 4
  · cases t with
    | mk k n x s l =>
      obtain ⟨hk, hn, hx, hsm⟩ := hwf
      simp only [cV, T.k, T.n, T.x, T.s, T.l] at hr hk hn hx hsm h4 h9 h10 H0 ⊢
      subst h4
      obtain ⟨hlc, hcap⟩ := hr.len
      clear hr
      have HE := Lib.hid ((he.step (H0.out.mono hB)).here (w := w.alloc _) (by simp; omega))
      clear he
      have HN := Lib.hid hn
      have HX := Lib.hid hx
      obtain ⟨hn0, hn1⟩ := hn
      obtain ⟨hx0, hx1⟩ := hx
      have HD := Lib.hid (show leafT 4 n x s = fltTx n x from rfl)
      go_enter Tryz.func60, Tryz.ntmps60
      go_wp2_with fail
      refine (impl_FltText n x _ HN.out HX.out HE.out.1).mono ?_
      rintro e w2 ⟨rfl, hb2⟩
      have HB2 := Lib.hid (below_step H0.out hb2 (by simp)); clear hb2
      go_wp2_with fail
      go_ret
      exact ⟨ret_s HD.out.symm, HB2.out⟩
  · have cC := impl_leafText t a cap B _ (hr.below H0.out hB) hwf hsz (he.step (H0.out.mono hB)) (by simp; omega) hp h4 h9 h10
    obtain ⟨⟨hk0, hk1⟩, _⟩ := hwf
    clear hr hp
    cases t with
    | mk k n x s l =>
      simp only [cV, T.k, T.n, T.x, T.s, T.l] at *
      go_enter Tryz.func60, Tryz.ntmps60
      go_wp2_with fail
      refine cC.mono ?_
      rintro e w2 ⟨rfl, hb2⟩
      have HB2 := Lib.hid (below_step H0.out hb2 (by simp)); clear hb2
      generalize hL : leafT k n x s = L
      have HL := Lib.hid hL; clear hL
      go_wp2_with fail
      go_ret
      exact ⟨ret_s HL.out.symm, HB2.out⟩
end Go.Proofs.YthpmfkkmhbbloaaGreatDoor
