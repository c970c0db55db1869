/- Texts of this proof, merged: DecT, WriA. No condition beyond what each theorem states. -/
import Derived.Test.YtggdenkmohnijaaGreatDoorZN27
set_option linter.unusedSimpArgs false
set_option linter.unnecessarySimpa false
namespace Go.Proofs.YtggdenkmohnijaaGreatDoor
open Go.ChangeShapes Go.WideShapes Go.ChangeAt Go.RowKit Go.Joins
set_option linter.unusedVariables false
set_option maxRecDepth 100000
def digT (n : Int) : ByteArray := ⟨(Lib.decDigits n.natAbs).toArray⟩
theorem digT_size (n : Int) : (digT n).size = digN n := by
  rw [Lib.size_eq]; exact Lib.decDigits_length _
theorem numT_neg {n : Int} (h : n < 0) : numT n = ⟨#[45]⟩ ++ digT n := by
  unfold numT Lib.itoa digT; rw [if_pos h]; apply ByteArray.ext; simp [ByteArray.data_append]
theorem numT_pos {n : Int} (h : ¬ n < 0) : numT n = digT n := by
  unfold numT Lib.itoa digT; rw [if_neg h, show n.toNat = n.natAbs from by omega]
theorem numT_tail {n : Int} (h : n < 0) : (numT n).extract 1 (numT n).size = digT n := by
  apply ByteArray.ext; apply Array.ext'
  rw [Lib.ext_list]
  unfold numT Lib.itoa digT; rw [if_pos h]; simp
theorem cut_neg {n : Int} (h : n < 0) : (⟨(Lib.trimPrefix (numT n).data.toList (⟨#[45]⟩ : ByteArray).data.toList).toArray⟩ : ByteArray) = digT n ∧ Lib.hasPrefix (numT n).data.toList (⟨#[45]⟩ : ByteArray).data.toList = true := by
  have hp : Lib.hasPrefix (numT n).data.toList (⟨#[45]⟩ : ByteArray).data.toList = true := by
    unfold numT Lib.itoa; rw [if_pos h]; simp [Lib.hasPrefix]
  refine ⟨?_, hp⟩
  unfold Lib.trimPrefix
  rw [if_pos hp]
  unfold numT Lib.itoa digT; rw [if_pos h]; simp
theorem cut_pos {n : Int} (h : ¬ n < 0) : (⟨(Lib.trimPrefix (numT n).data.toList (⟨#[45]⟩ : ByteArray).data.toList).toArray⟩ : ByteArray) = digT n ∧ Lib.hasPrefix (numT n).data.toList (⟨#[45]⟩ : ByteArray).data.toList = false := by
  have hp : Lib.hasPrefix (numT n).data.toList (⟨#[45]⟩ : ByteArray).data.toList = false := by
    unfold numT Lib.itoa; rw [if_neg h]; exact dec_noneg _
  refine ⟨?_, hp⟩
  unfold Lib.trimPrefix
  rw [if_neg (by rw [hp]; simp)]
  rw [numT_pos h]
def padZ : Nat → Nat → ByteArray → ByteArray
  | 0, _, s => s
  | f + 1, m, s => if s.size ≤ m then padZ f m (⟨#[48]⟩ ++ s) else s
theorem padZ_more (f m : Nat) (s : ByteArray) (h : s.size ≤ m) : padZ (f + 1) m s = padZ f m (⟨#[48]⟩ ++ s) := by rw [padZ, if_pos h]
theorem padZ_done (f m : Nat) (s : ByteArray) (h : ¬ s.size ≤ m) : padZ f m s = s := by
  cases f with
  | zero => rfl
  | succ f => rw [padZ, if_neg h]
def decBody (n : Int) (m : Nat) : ByteArray := ((padZ 60 m (digT n)).extract 0 ((padZ 60 m (digT n)).size - m) ++ ⟨#[46]⟩) ++ (padZ 60 m (digT n)).extract ((padZ 60 m (digT n)).size - m) (padZ 60 m (digT n)).size
def decTx (n : Int) (m : Nat) : ByteArray := if ¬ decOk n (-(m : Int)) then ⟨#[]⟩ else if m = 0 then numT n else if n < 0 then ⟨#[45]⟩ ++ decBody n m else decBody n m
def strSz : Value → Nat | .string s => s.size | _ => 0
theorem padZ_size (f m : Nat) : ∀ s : ByteArray, (padZ f m s).size ≤ s.size + f := by
  induction f with
  | zero => intro s; simp [padZ]
  | succ f ih =>
    intro s
    rw [padZ]
    split
    · have := ih (⟨#[48]⟩ ++ s)
      rw [ByteArray.size_append] at this
      have h1 : (⟨#[48]⟩ : ByteArray).size = 1 := rfl
      omega
    · omega
set_option maxHeartbeats 4000000 in
theorem spec_DecText (n : Int) (m : Nat) (w : World) (hn : I64 n) (hm : m ≤ 40) :
    Calls Tryz.prog 111 #[.agg (cF n (-(m : Int)))] w fun e w' => e = .returned (.string (decTx n m)) ∧ Below w.heap.size w w' := by
  have HN := Lib.hid hn
  obtain ⟨hn0, hn1⟩ := hn
  have H0 := Lib.hid (below1 w (.cells (cF n (-(m : Int))) 100))
  have q0 := Is.new w (cF n (-(m : Int))) 100
  have lg : w.heap.size < (w.alloc (.cells (cF n (-(m : Int))) 100)).heap.size := by simp
  go_enter Tryz.func111, Tryz.ntmps111
  go_wp2_with fail
  refine (spec_DecOk n (-(m : Int)) _ HN.out ⟨by omega, by omega⟩).mono ?_
  rintro e w2 ⟨rfl, hb2⟩
  have hl2 : w.heap.size < w2.heap.size := Nat.lt_of_lt_of_le lg hb2.size
  have p2 := q0.below hb2 lg
  obtain ⟨x0, x1⟩ := p2.cells2b
  have HB2 := Lib.hid (below_step H0.out hb2 (by simp)); clear hb2
  by_cases hok : decOk n (-(m : Int))
  · rw [decide_eq_true hok]
    by_cases h0 : m = 0
    · have HD := Lib.hid (show decTx n m = numT n from (if_neg (fun h => h hok)).trans (if_pos h0))
      subst h0
      clear hok
      go_wp2_with fail
      refine (spec_NumText n _ HN.out).mono ?_
      rintro e w3 ⟨rfl, hb3⟩
      go_wp2_with fail
      go_ret
      exact ⟨ret_s HD.out.symm, HB2.out.trans (hb3.mono HB2.out.size)⟩
    · have hd17 : digN n ≤ 17 := by
        rcases hok with h | h
        · omega
        · exact h.2.2.1
      have hdz := digT_size n
      have HD := Lib.hid (show decTx n m = if n < 0 then ⟨#[45]⟩ ++ decBody n m else decBody n m from (if_neg (fun h => h hok)).trans (if_neg h0))
      have h0' : ¬ (-(m : Int)) = 0 := by omega
      have z45 : (⟨#[45]⟩ : ByteArray).size = 1 := rfl
      have z46 : (⟨#[46]⟩ : ByteArray).size = 1 := rfl
      have z48 : (⟨#[48]⟩ : ByteArray).size = 1 := rfl
      clear hok h0
      go_wp2_with fail
      refine (spec_NumText n _ HN.out).mono ?_
      rintro e w3 ⟨rfl, hb3⟩
      have hl3 : w.heap.size < w3.heap.size := Nat.lt_of_lt_of_le hl2 hb3.size
      have p3 := p2.below hb3 hl2
      obtain ⟨y0, y1⟩ := p3.cells2b
      have HB3 := Lib.hid (HB2.out.trans (hb3.mono HB2.out.size)); clear hb3
      have HS : ∃ sg : ByteArray, sg.size ≤ 1 ∧ ((n < 0 ∧ sg = ⟨#[45]⟩ ∧ numT n = ⟨#[45]⟩ ++ digT n) ∨ (¬ n < 0 ∧ sg = ⟨#[]⟩ ∧ numT n = digT n)) := by
        by_cases h : n < 0
        · exact ⟨_, by omega, .inl ⟨h, rfl, numT_neg h⟩⟩
        · exact ⟨⟨#[]⟩, by simp [ByteArray.size], .inr ⟨h, rfl, numT_pos h⟩⟩
      obtain ⟨sg, hsg, ⟨hng, hsg2, hnm⟩ | ⟨hng, hsg2, hnm⟩⟩ := HS
      all_goals
        have hns : (numT n).size ≤ 18 := by rw [hnm]; first | (rw [ByteArray.size_append]; omega) | omega
        have hns1 : 1 ≤ (numT n).size := by rw [hnm]; first | (rw [ByteArray.size_append]; omega) | (rw [hdz, digN_eq]; omega)
        first
          | have HTL := Lib.hid (numT_tail hng)
          | have HTL := Lib.hid hnm
        clear hnm
        have HFIN : Hid (∀ d : ByteArray, padZ 60 m (digT n) = d → decTx n m = ((sg ++ d.extract 0 (d.size - m)) ++ ⟨#[46]⟩) ++ d.extract (d.size - m) d.size) := by
          intro d hd
          rw [HD.out, hsg2]
          first
            | rw [if_pos hng]
            | rw [if_neg hng]
          unfold decBody
          rw [hd]
          apply ByteArray.ext
          simp [ByteArray.data_append]
        have HEQ := Lib.hid hsg2
        clear hsg2 HD
        go_wp2_with fail
        try rw [HTL.out]
        rw [← HEQ.out]
        clear HEQ HTL hns hns1 hng
        go_loopw [3] (fun s wr => ∃ (d : ByteArray) (f : Nat), s = .string d ∧ f + d.size = 60 + digN n ∧ d.size ≤ 41 ∧ Hid (padZ 60 m (digT n) = padZ f m d) ∧ Below w3.heap.size w3 wr) (fun s _ => 60 - strSz s)
        case atStart => exact ⟨digT n, 60, rfl, by omega, by omega, rfl, Below.refl _ _⟩
        case round =>
          obtain ⟨d, f, rfl, hf, hd41, HP, hb⟩ := hrel
          have hl4 : w.heap.size < wr.heap.size := Nat.lt_of_lt_of_le hl3 hb.size
          have p4 := p3.below hb hl3
          obtain ⟨v0, v1⟩ := p4.cells2b
          by_cases hgo : d.size ≤ m
          · obtain ⟨f', rfl⟩ : ∃ f', f = f' + 1 := ⟨f - 1, by omega⟩
            have HE := Lib.hid (HP.out.trans (padZ_more f' m d hgo))
            go_wp2_with fail
            go_roundw
            case rel => exact ⟨_, f', rfl, by rw [ByteArray.size_append]; omega, by rw [ByteArray.size_append]; omega, HE.out, hb⟩
            case measure => simp only [strSz, ByteArray.size_append]; first | omega | (simp [strSz]; omega)
          · have HE := Lib.hid (HFIN.out d (HP.out.trans (padZ_done f m d hgo)))
            have hsub : (d.size : Int) + -(m : Int) = ((d.size - m : Nat) : Int) := by omega
            have hx1 : (d.extract 0 (d.size - m)).size ≤ 41 := by rw [ByteArray.size_extract]; omega
            have hx2 : (d.extract (d.size - m) d.size).size ≤ 41 := by rw [ByteArray.size_extract]; omega
            clear HP HFIN
            go_wp2_with fail
            go_quiet (fail)
            go_wp2_with fail
            go_ret
            exact ⟨ret_s HE.out.symm, (HB3.out.trans (hb.mono HB3.out.size)).trans (below_drewN _ _ _)⟩
  · have HD := Lib.hid (show decTx n m = ⟨#[]⟩ from if_pos hok)
    rw [decide_eq_false hok]
    clear hok
    go_wp2_with fail
    go_ret
    exact ⟨ret_s HD.out.symm, HB2.out⟩
set_option maxHeartbeats 4000000 in
theorem impl_DecText (n : Int) (m : Nat) (w : World) (hn : I64 n) (hm : m ≤ 40) (htab : Lib.TabBelow Tryz.prog w.heap.size w "internal/strconv.uint64pow10" .u64 Lib.pow10Tab) :
    Calls Tryz.prog 197 #[.agg (cF n (-(m : Int)))] w fun e w' => e = .returned (.string (decTx n m)) ∧ Below w.heap.size w w' := by
  have HT := Lib.hid htab; clear htab
  have HN := Lib.hid hn
  obtain ⟨hn0, hn1⟩ := hn
  have H0 := Lib.hid (below1 w (.cells (cF n (-(m : Int))) 100))
  have q0 := Is.new w (cF n (-(m : Int))) 100
  have lg : w.heap.size < (w.alloc (.cells (cF n (-(m : Int))) 100)).heap.size := by simp
  go_enter Tryz.func197, Tryz.ntmps197
  go_wp2_with fail
  refine (impl_NumText n _ HN.out (HT.out _ H0.out)).mono ?_
  rintro e w1 ⟨rfl, hb1⟩
  have hl1 : w.heap.size < w1.heap.size := Nat.lt_of_lt_of_le lg hb1.size
  have p1 := q0.below hb1 lg
  obtain ⟨o0, o1⟩ := p1.cells2b
  have HB1 := Lib.hid (below_step H0.out hb1 (by simp)); clear hb1
  go_wp2_with fail
  refine (impl_DecOk n (-(m : Int)) _ HN.out ⟨by omega, by omega⟩ (fun V hV => HT.out V (HB1.out.trans (hV.mono HB1.out.size)))).mono ?_
  rintro e w2 ⟨rfl, hb2⟩
  have hl2 : w.heap.size < w2.heap.size := Nat.lt_of_lt_of_le hl1 hb2.size
  have p2 := p1.below hb2 hl1
  obtain ⟨x0, x1⟩ := p2.cells2b
  have HB2 := Lib.hid (HB1.out.trans (hb2.mono HB1.out.size)); clear hb2 o0 o1 p1 q0
  by_cases hok : decOk n (-(m : Int))
  · rw [decide_eq_true hok]
    by_cases h0 : m = 0
    · have HD := Lib.hid (show decTx n m = numT n from (if_neg (fun h => h hok)).trans (if_pos h0))
      subst h0
      clear hok
      go_wp2_with fail
      go_ret
      exact ⟨ret_s HD.out.symm, HB2.out⟩
    · have hd17 : digN n ≤ 17 := by
        rcases hok with h | h
        · omega
        · exact h.2.2.1
      have hdz := digT_size n
      have HD := Lib.hid (show decTx n m = if n < 0 then ⟨#[45]⟩ ++ decBody n m else decBody n m from (if_neg (fun h => h hok)).trans (if_neg h0))
      have h0' : ¬ (-(m : Int)) = 0 := by omega
      have z45 : (⟨#[45]⟩ : ByteArray).size = 1 := rfl
      have z46 : (⟨#[46]⟩ : ByteArray).size = 1 := rfl
      have z48 : (⟨#[48]⟩ : ByteArray).size = 1 := rfl
      have HP60 : Hid (∀ d : ByteArray, padZ 60 m (digT n) = d → decBody n m = (d.extract 0 (d.size - m) ++ ⟨#[46]⟩) ++ d.extract (d.size - m) d.size) := by
        intro d hd
        unfold decBody
        rw [hd]
      clear hok h0
      have HS : ∃ ng : Bool, (Hid ((⟨(Lib.trimPrefix (numT n).data.toList (⟨#[45]⟩ : ByteArray).data.toList).toArray⟩ : ByteArray) = digT n) ∧ Hid (Lib.hasPrefix (numT n).data.toList (⟨#[45]⟩ : ByteArray).data.toList = ng)) ∧ Hid (decTx n m = if ng then ⟨#[45]⟩ ++ decBody n m else decBody n m) := by
        by_cases h : n < 0
        · exact ⟨true, cut_neg h, by show _ = _; rw [HD.out, if_pos h]; rfl⟩
        · exact ⟨false, cut_pos h, by show _ = _; rw [HD.out, if_neg h]; rfl⟩
      obtain ⟨ng, ⟨HC1, HC2⟩, HF⟩ := HS
      clear HD
      go_wp2_with (go_at_call 241; refine (Tryz.strings_CutPrefix _ _ _).mono ?_; rintro e w3 ⟨rfl, hw3⟩; subst w3; rw [HC1.out, HC2.out])
      go_loopw [4] (fun s wr => ∃ (d : ByteArray) (f : Nat), s = .string d ∧ f + d.size = 60 + digN n ∧ d.size ≤ 41 ∧ Hid (padZ 60 m (digT n) = padZ f m d) ∧ Below w2.heap.size w2 wr) (fun s _ => 60 - strSz s)
      case atStart => exact ⟨digT n, 60, rfl, by omega, by omega, rfl, Below.refl _ _⟩
      case round =>
        obtain ⟨d, f, rfl, hf, hd41, HP, hb⟩ := hrel
        have hl4 : w.heap.size < wr.heap.size := Nat.lt_of_lt_of_le hl2 hb.size
        have p4 := p2.below hb hl2
        obtain ⟨v0, v1⟩ := p4.cells2b
        by_cases hgo : d.size ≤ m
        · obtain ⟨f', rfl⟩ : ∃ f', f = f' + 1 := ⟨f - 1, by omega⟩
          have HE := Lib.hid (HP.out.trans (padZ_more f' m d hgo))
          go_wp2_with fail
          go_roundw
          case rel => exact ⟨_, f', rfl, by rw [ByteArray.size_append]; omega, by rw [ByteArray.size_append]; omega, HE.out, hb⟩
          case measure => simp only [strSz, ByteArray.size_append]; first | omega | (simp [strSz]; omega)
        · have HE := Lib.hid (HP60.out d (HP.out.trans (padZ_done f m d hgo)))
          have hsub : (d.size : Int) + -(m : Int) = ((d.size - m : Nat) : Int) := by omega
          have hx1 : (d.extract 0 (d.size - m)).size ≤ 41 := by rw [ByteArray.size_extract]; omega
          have hx2 : (d.extract (d.size - m) d.size).size ≤ 41 := by rw [ByteArray.size_extract]; omega
          clear HP HP60
          cases ng with
          | true =>
            have HG := Lib.hid (show decTx n m = ⟨#[45]⟩ ++ ((d.extract 0 (d.size - m) ++ ⟨#[46]⟩) ++ d.extract (d.size - m) d.size) from by rw [HF.out, if_pos rfl, HE.out])
            go_wp2_with fail
            go_quiet (fail)
            go_wp2_with fail
            go_ret
            exact ⟨ret_s HG.out.symm, (HB2.out.trans (hb.mono HB2.out.size)).trans (below_drewN _ _ _)⟩
          | false =>
            have HG := Lib.hid (show decTx n m = ((d.extract 0 (d.size - m) ++ ⟨#[46]⟩) ++ d.extract (d.size - m) d.size) from by rw [HF.out, if_neg (by simp), HE.out])
            go_wp2_with fail
            go_quiet (fail)
            go_wp2_with fail
            go_ret
            exact ⟨ret_s HG.out.symm, (HB2.out.trans (hb.mono HB2.out.size)).trans (below_drewN _ _ _)⟩
  · have HD := Lib.hid (show decTx n m = ⟨#[]⟩ from if_pos hok)
    rw [decide_eq_false hok]
    clear hok
    go_wp2_with fail
    go_ret
    exact ⟨ret_s HD.out.symm, HB2.out⟩
def fltTx (m e : Int) : ByteArray := if fltOk m e then decTx (fltDecD m e).1 (-(fltDecD m e).2).toNat else ⟨#[]⟩
set_option maxHeartbeats 1000000 in
theorem spec_FltText (m e : Int) (w : World) (hm : I64 m) (he : I64 e) :
    Calls Tryz.prog 139 #[.agg (cF m e)] w fun ee w' => ee = .returned (.string (fltTx m e)) ∧ Below w.heap.size w w' := by
  have HM := Lib.hid hm; have HE := Lib.hid he
  obtain ⟨hm0, hm1⟩ := hm
  obtain ⟨he0, he1⟩ := he
  have H0 := Lib.hid (below1 w (.cells (cF m e) 61))
  have q0 := Is.new w (cF m e) 61
  have lg : w.heap.size < (w.alloc (.cells (cF m e) 61)).heap.size := by simp
  go_enter Tryz.func139, Tryz.ntmps139
  go_wp2_with fail
  refine (spec_FltOk m e _ HM.out HE.out).mono ?_
  rintro ee w2 ⟨rfl, hb2⟩
  have hl2 : w.heap.size < w2.heap.size := Nat.lt_of_lt_of_le lg hb2.size
  have p2 := q0.below hb2 lg
  obtain ⟨x0, x1⟩ := p2.cells2b
  have HB2 := Lib.hid (below_step H0.out hb2 (by simp)); clear hb2
  by_cases hok : fltOk m e
  · have HD := Lib.hid (show fltTx m e = decTx (fltDecD m e).1 (-(fltDecD m e).2).toNat from if_pos hok)
    rw [decide_eq_true hok]
    clear hok
    have hbox := fltDecD_box m e
    go_wp2_with fail
    refine (spec_FltDec m e _ HM.out HE.out).mono ?_
    rintro ee w3 ⟨rfl, hb3⟩
    have HB3 := Lib.hid (HB2.out.trans (hb3.mono HB2.out.size)); clear hb3
    obtain ⟨k, hk⟩ : ∃ k : Nat, (fltDecD m e).2 = -(k : Int) := ⟨(-(fltDecD m e).2).toNat, by omega⟩
    have hk2 : (-(fltDecD m e).2).toNat = k := by omega
    rw [hk2] at HD
    rw [hk] at hbox ⊢
    have HX := Lib.hid hbox.1
    have hk40 : k ≤ 40 := by omega
    clear hbox hk hk2
    generalize (fltDecD m e).1 = N at *
    go_wp2_with fail
    refine (spec_DecText N k _ HX.out hk40).mono ?_
    rintro ee w4 ⟨rfl, hb4⟩
    go_wp2_with fail
    go_ret
    exact ⟨ret_s HD.out.symm, HB3.out.trans (hb4.mono HB3.out.size)⟩
  · have HD := Lib.hid (show fltTx m e = ⟨#[]⟩ from if_neg hok)
    rw [decide_eq_false hok]
    clear hok
    go_wp2_with fail
    go_ret
    exact ⟨ret_s HD.out.symm, HB2.out⟩
def leafT (k n x : Int) (s : ByteArray) : ByteArray := if k = 2 then (if n = 1 then ⟨#[116, 114, 117, 101]⟩ else ⟨#[102, 97, 108, 115, 101]⟩) else if k = 3 then numT n else if k = 6 then decTx n (-x).toNat else if k = 4 then fltTx n x else if k = 7 then quoteT s else ⟨#[110, 117, 108, 108]⟩
def sepT (mp : Bool) (i : Nat) : ByteArray := if i = 0 then ⟨#[]⟩ else if mp = true ∧ i % 2 = 1 then ⟨#[58]⟩ else ⟨#[44]⟩
mutual
def writeT : T → ByteArray
  | .mk k n x s l => if k = 9 then (⟨#[91]⟩ ++ writesT false 0 l) ++ ⟨#[93]⟩ else if k = 10 then (⟨#[123]⟩ ++ writesT true 0 l) ++ ⟨#[125]⟩ else leafT k n x s
def writesT (mp : Bool) : Nat → List T → ByteArray
  | _, [] => ⟨#[]⟩
  | i, t :: r => (sepT mp i ++ writeT t) ++ writesT mp (i + 1) r
end
theorem writesT_succ (mp : Bool) : ∀ (l : List T) (i j : Nat) (h : j < l.length), writesT mp i (l.take (j + 1)) = writesT mp i (l.take j) ++ (sepT mp (i + j) ++ writeT l[j]) := by
  intro l
  induction l with
  | nil => intro i j h; simp at h
  | cons t r ih =>
    intro i j h
    cases j with
    | zero => apply ByteArray.ext; simp [writesT, ByteArray.data_append]
    | succ j =>
      have := ih (i + 1) j (by simpa using h)
      simp only [List.take_succ_cons, writesT, List.getElem_cons_succ]
      rw [this, show i + 1 + j = i + (j + 1) from by omega]
      simp only [ByteArray.append_assoc]
def wrP (t : T) : Prop := (t.k = 1 ∨ t.k = 2 ∨ t.k = 4 ∨ t.k = 7 ∨ t.k = 9 ∨ t.k = 10) ∨ (t.k = 3 ∧ -1000000000000000 ≤ t.n ∧ t.n ≤ 1000000000000000) ∨ (t.k = 6 ∧ -16 ≤ t.x ∧ t.x ≤ 0)
instance (t : T) : Decidable (wrP t) := by unfold wrP; exact inferInstance
theorem allB_mono {p q : T → Bool} (h : ∀ t, p t = true → q t = true) : ∀ t, allB p t = true → allB q t = true := by
  intro t
  induction t using T.ind with
  | h k n x s l ih =>
    rw [allB_eq, allB_eq]
    simp only [Bool.and_eq_true, List.all_eq_true, T.l]
    rintro ⟨h1, h2⟩
    exact ⟨h _ h1, fun t ht => ih t ht (h2 t ht)⟩
theorem allB_both {p q : T → Bool} : ∀ t, allB p t = true → allB q t = true → allB (fun t => p t && q t) t = true := by
  intro t
  induction t using T.ind with
  | h k n x s l ih =>
    rw [allB_eq, allB_eq, allB_eq]
    simp only [Bool.and_eq_true, List.all_eq_true, T.l]
    rintro ⟨h1, h2⟩ ⟨h3, h4⟩
    exact ⟨⟨h1, h3⟩, fun t ht => ih t ht (h2 t ht) (h4 t ht)⟩
theorem decTx_size (n : Int) (m : Nat) : (decTx n m).size ≤ 200 := by
  unfold decTx
  by_cases h : decOk n (-(m : Int))
  · have hd : digN n ≤ 20 := by
      unfold decOk at h
      rcases h with ⟨_, h1, h2⟩ | ⟨_, _, h1, _⟩
      · exact digN_le n ⟨by omega, by omega⟩
      · omega
    have h1 := digT_size n
    have h2 := padZ_size 60 m (digT n)
    have z1 : (⟨#[45]⟩ : ByteArray).size = 1 := rfl
    have z2 : (⟨#[46]⟩ : ByteArray).size = 1 := rfl
    rw [if_neg (fun hn => hn h)]
    by_cases h0 : m = 0
    · rw [if_pos h0]
      by_cases hn : n < 0
      · rw [numT_neg hn, ByteArray.size_append]; omega
      · rw [numT_pos hn]; omega
    · rw [if_neg h0]
      unfold decBody
      split
      · simp only [ByteArray.size_append, ByteArray.size_extract]; omega
      · simp only [ByteArray.size_append, ByteArray.size_extract]; omega
  · rw [if_pos h]; exact Nat.zero_le _
theorem fltTx_size (m e : Int) : (fltTx m e).size ≤ 200 := by
  unfold fltTx
  split
  · exact decTx_size _ _
  · exact Nat.zero_le _
theorem quoteT_size (s : ByteArray) : (quoteT s).size ≤ 2 + 12 * s.size := by
  unfold quoteT
  split
  · have h1 : ∀ (l : List Int) j, (escF l j).size ≤ 12 * j := by
      intro l j
      induction j with
      | zero => exact Nat.le_refl _
      | succ j ih => rw [escF, ByteArray.size_append]; have := escT_size (l.getD j 0); omega
    have h2 := h1 (runesT s) (runesT s).length
    have h3 := runesG_len s.size s.data.toList
    have z1 : (⟨#[34]⟩ : ByteArray).size = 1 := rfl
    rw [ByteArray.size_append, ByteArray.size_append]
    unfold runesT at *
    omega
  · exact Nat.zero_le _
theorem leafT_size (t : T) (h : wrP t) : (leafT t.k t.n t.x t.s).size ≤ 200 + 12 * t.s.size := by
  unfold leafT
  split
  · split
    · exact Nat.le_trans (show (4 : Nat) ≤ 200 by omega) (Nat.le_add_right _ _)
    · exact Nat.le_trans (show (5 : Nat) ≤ 200 by omega) (Nat.le_add_right _ _)
  · split
    · have := numT_size (n := t.n) (by unfold wrP at h; exact ⟨by omega, by omega⟩); omega
    · split
      · have := decTx_size t.n (-t.x).toNat; omega
      · split
        · have := fltTx_size t.n t.x; omega
        · split
          · have := quoteT_size t.s; omega
          · exact Nat.le_trans (show (4 : Nat) ≤ 200 by omega) (Nat.le_add_right _ _)
theorem sepT_size (mp : Bool) (i : Nat) : (sepT mp i).size ≤ 1 := by
  unfold sepT
  split
  · exact Nat.zero_le _
  · split
    · exact Nat.le_refl _
    · exact Nat.le_refl _
theorem writeT_size : ∀ t : T, allB (fun t => decide (wrP t)) t = true → (writeT t).size + 9 ≤ 300 * (1 + T.sz t) := by
  intro t
  induction t using T.ind with
  | h k n x s l ih =>
    intro h
    rw [allB_eq] at h
    simp only [Bool.and_eq_true, List.all_eq_true, T.l, decide_eq_true_eq] at h
    obtain ⟨h1, h2⟩ := h
    have key : ∀ (mp : Bool) (r : List T) (i : Nat), (∀ t ∈ r, t ∈ l) → (writesT mp i r).size ≤ 300 * T.szL r := by
      intro mp r
      induction r with
      | nil => intro i _; exact Nat.zero_le _
      | cons t r ihr =>
        intro i hm
        have a1 := ihr (i + 1) (fun t ht => hm t (List.mem_cons_of_mem _ ht))
        have a2 := ih t (hm t (List.mem_cons_self ..)) (h2 t (hm t (List.mem_cons_self ..)))
        have a3 := sepT_size mp i
        simp only [writesT, ByteArray.size_append, T.szL]
        omega
    have e1 := key false l 0 (fun _ h => h)
    have e2 := key true l 0 (fun _ h => h)
    have e3 := leafT_size (.mk k n x s l) h1
    have z1 : (⟨#[91]⟩ : ByteArray).size = 1 := rfl
    have z2 : (⟨#[93]⟩ : ByteArray).size = 1 := rfl
    have z3 : (⟨#[123]⟩ : ByteArray).size = 1 := rfl
    have z4 : (⟨#[125]⟩ : ByteArray).size = 1 := rfl
    simp only [T.k, T.n, T.x, T.s] at e3
    rw [writeT, sz_of]
    split
    · rw [ByteArray.size_append, ByteArray.size_append]; omega
    · split
      · rw [ByteArray.size_append, ByteArray.size_append]; omega
      · omega
end Go.Proofs.YtggdenkmohnijaaGreatDoor
