/- Texts of this proof, merged: DecF2. No condition beyond what each theorem states. -/
import Derived.Test.YtggdenkmohnijaaGreatDoorZN17
set_option linter.unusedSimpArgs false
set_option linter.unnecessarySimpa false
namespace Go.Proofs.YtggdenkmohnijaaGreatDoor
open Go.ChangeShapes Go.WideShapes Go.ChangeAt Go.RowKit Go.Joins
set_option linter.unusedVariables false
set_option maxRecDepth 100000
def stripD : Nat → Int → Int × Nat
  | 0, n => (n, 0)
  | m + 1, n => if n.tmod 10 = 0 then stripD m (n.tdiv 10) else (n, m + 1)
theorem stripD_zero (n : Int) : stripD 0 n = (n, 0) := rfl
theorem stripD_no (m : Nat) (n : Int) (h : n.tmod 10 ≠ 0) : stripD m n = (n, m) := by
  cases m with
  | zero => rfl
  | succ m => rw [stripD, if_neg h]
theorem stripD_yes (m : Nat) (n : Int) (hm : 0 < m) (h : n.tmod 10 = 0) : stripD m n = stripD (m - 1) (n.tdiv 10) := by
  cases m with
  | zero => omega
  | succ m => rw [stripD, if_pos h]; rfl
theorem stripD_le (m : Nat) : ∀ n : Int, (stripD m n).2 ≤ m := by
  induction m with
  | zero => intro n; simp [stripD]
  | succ m ih =>
    intro n
    rw [stripD]
    split
    · have := ih (n.tdiv 10); omega
    · simp
def decNewD (n : Int) (m : Nat) : (Int × Int) × Bool :=
  if 17 < digN n then ((0, 0), false)
  else if n = 0 then ((0, 0), true)
  else if decOk (stripD m n).1 (-((stripD m n).2 : Int)) then (((stripD m n).1, -((stripD m n).2 : Int)), true) else ((0, 0), false)
theorem Is.cells2b {w : World} {g : Nat} {e : TypeId} {v0 v1 : Value} (h : Is w g e #[v0, v1]) : w.cell? ⟨g, 0, none⟩ = some v0 ∧ w.cell? ⟨g, 1, none⟩ = some v1 := ⟨h.cell 0 rfl, h.cell 1 rfl⟩
set_option maxHeartbeats 4000000 in
theorem spec_DecNew (n : Int) (m : Nat) (w : World) (hn : I64 n) (hm : m ≤ 40) :
    Calls Tryz.prog 246 #[.int .i64 n, .int .i64 (-(m : Int))] w fun e w' => e = .returned (.tuple #[.agg (cF (decNewD n m).1.1 (decNewD n m).1.2), .bool (decNewD n m).2]) ∧ Below w.heap.size w w' := by
  have HN := Lib.hid hn
  obtain ⟨hn0, hn1⟩ := hn
  have hdl := digN_le n ⟨hn0, hn1⟩
  have q0 := Is.new w (cF 0 0) 100
  have D40 := Lib.hid (show decide ((-40 : Int) ≤ (-(m : Int)) ∧ (-(m : Int)) ≤ 40) = true from decide_eq_true ⟨by omega, by omega⟩)
  have lg : w.heap.size < (w.alloc (.cells (cF 0 0) 100)).heap.size := by simp
  by_cases h17 : 17 < digN n
  · have HD := Lib.hid (show decNewD n m = ((0, 0), false) from if_pos h17)
    go_enter Tryz.func246, Tryz.ntmps246
    go_wp2_with (go_at_call 188; refine (spec_Digits _ _ HN.out).mono ?_; rintro e w2 ⟨rfl, hb⟩; have p2 := q0.below hb lg; obtain ⟨z0, z1⟩ := p2.cells2b; have ff := fun i => p2.frozen i; have hl2 : w.heap.size < w2.heap.size := Nat.lt_of_lt_of_le lg hb.size; have HB2 := Lib.hid (below_step (below1 w _) hb (by simp)))
    obtain ⟨e0, e1⟩ := ((p2.set 0 (.int .i64 (0))).set 1 (.int .i64 (0))).cells2b
    refine bodyPost_ret (v := .tuple #[.agg #[.int .i64 (0), .int .i64 (0)], .bool false]) (by simp [results, Tryz.results246, go_sem, e0, e1]) rfl ⟨by rw [HD.out], HB2.out.trans ((below2s _ _ _ _).mono (Nat.le_refl _))⟩
  by_cases h0 : n = 0
  · have HD := Lib.hid (show decNewD n m = ((0, 0), true) from (if_neg h17).trans (if_pos h0))
    subst h0
    go_enter Tryz.func246, Tryz.ntmps246
    go_wp2_with (first | (go_at_call 188; refine (spec_Digits _ _ HN.out).mono ?_; rintro e w2 ⟨rfl, hb⟩; have p2 := q0.below hb lg; have hl2 : w.heap.size < w2.heap.size := Nat.lt_of_lt_of_le lg hb.size; have HB2 := Lib.hid (below_step (below1 w _) hb (by simp)); clear hb) | (go_at_call 74; refine (spec_l1In _ _ _ _).mono ?_; rintro e w3 ⟨rfl, hb⟩; rw [D40.out]; have p3 := p2.below hb hl2; obtain ⟨z0, z1⟩ := p3.cells2b; have ff := fun i => p3.frozen i; have hl3 : w.heap.size < w3.heap.size := Nat.lt_of_lt_of_le hl2 hb.size; have HB3 := Lib.hid (HB2.out.trans (hb.mono HB2.out.size)); clear hb))
    obtain ⟨e0, e1⟩ := ((p3.set 0 (.int .i64 (0))).set 1 (.int .i64 (0))).cells2b
    refine bodyPost_ret (v := .tuple #[.agg #[.int .i64 (0), .int .i64 (0)], .bool true]) (by simp [results, Tryz.results246, go_sem, e0, e1]) rfl ⟨by rw [HD.out], HB3.out.trans ((below2s _ _ _ _).mono (Nat.le_refl _))⟩
  have HX := Lib.hid (show decNewD n m = if decOk (stripD m n).1 (-((stripD m n).2 : Int)) then (((stripD m n).1, -((stripD m n).2 : Int)), true) else ((0, 0), false) from (if_neg h17).trans (if_neg h0))
  have h0' : (n == 0) = false := by simpa using h0
  go_enter Tryz.func246, Tryz.ntmps246
  go_wp2_with (first | (go_at_call 188; refine (spec_Digits _ _ HN.out).mono ?_; rintro e w2 ⟨rfl, hb⟩; have p2 := q0.below hb lg; have hl2 : w.heap.size < w2.heap.size := Nat.lt_of_lt_of_le lg hb.size; have HB2 := Lib.hid (below_step (below1 w _) hb (by simp)); clear hb) | (go_at_call 74; refine (spec_l1In _ _ _ _).mono ?_; rintro e w3 ⟨rfl, hb⟩; rw [D40.out]; have p3 := p2.below hb hl2; have hl3 : w.heap.size < w3.heap.size := Nat.lt_of_lt_of_le hl2 hb.size; have HB3 := Lib.hid (HB2.out.trans (hb.mono HB2.out.size)); clear hb))
  go_loopw [0, 1] (fun nv xv wr => ∃ (n2 : Int) (m2 : Nat), nv = .int .i64 n2 ∧ xv = .int .i64 (-(m2 : Int)) ∧ -9223372036854775808 ≤ n2 ∧ n2 ≤ 9223372036854775807 ∧ m2 ≤ 40 ∧ Hid (stripD m n = stripD m2 n2) ∧ Below w3.heap.size w3 wr) (fun _ xv _ => (-(intOf xv)).toNat)
  case atStart => exact ⟨n, m, rfl, rfl, hn0, hn1, hm, rfl, Below.refl _ _⟩
  case round =>
    obtain ⟨n2, m2, rfl, rfl, hn2a, hn2b, hm2, HS, hb⟩ := hrel
    have hbs := hb.size
    by_cases hgo : n2.tmod 10 = 0 ∧ 0 < m2
    · obtain ⟨hg1, hg2⟩ := hgo
      have HE := Lib.hid (show stripD m n = stripD (m2 - 1) (n2.tdiv 10) from HS.out.trans (stripD_yes m2 n2 hg2 hg1))
      have ht := tdiv_abs n2
      have hg1' : (n2.tmod 10 == 0) = true := by simp [hg1]
      have hxl : -(m2 : Int) < 0 := by omega
      go_wp2_with fail
      go_roundw
      case rel => exact ⟨n2.tdiv 10, m2 - 1, by first | rfl | go_num, by go_num, by omega, by omega, by omega, HE.out, hb⟩
      case measure => simp only [intOf]; first | omega | (simp; omega)
    · have HE := Lib.hid (show stripD m n = (n2, m2) from HS.out.trans (by
        by_cases hz : m2 = 0
        · rw [hz, stripD_zero]
        · exact stripD_no _ _ (fun h => hgo ⟨h, by omega⟩)))
      have hmm : ¬ (-(m2 : Int) > 0) := by omega
      have HXX := Lib.hid (show decNewD n m = if decOk n2 (-(m2 : Int)) then ((n2, -(m2 : Int)), true) else ((0, 0), false) from by rw [HX.out, HE.out])
      have p4 := p3.below hb hl3
      have HB4 := Lib.hid (HB3.out.trans (hb.mono HB3.out.size))
      have hl4 : w.heap.size < wr.heap.size := by omega
      rename World => w4
      have hstop : ((n2.tmod 10 == 0) = false ∧ -(m2 : Int) < 0) ∨ ((n2.tmod 10 == 0) = false ∧ ¬ (-(m2 : Int) < 0)) ∨ ((n2.tmod 10 == 0) = true ∧ ¬ (-(m2 : Int) < 0)) := by
        by_cases hz : n2.tmod 10 = 0
        · right; right; exact ⟨by simp [hz], fun h => hgo ⟨hz, by omega⟩⟩
        · by_cases hy : -(m2 : Int) < 0
          · left; exact ⟨by simp [hz], hy⟩
          · right; left; exact ⟨by simp [hz], hy⟩
      clear HX HE HS hgo
      rcases hstop with ⟨hst, hst2⟩ | ⟨hst, hst2⟩ | ⟨hst, hst2⟩
      all_goals
        go_wp2_with fail
        go_loopw [0, 1] (fun nv xv wr => nv = .int .i64 n2 ∧ xv = .int .i64 (-(m2 : Int)) ∧ Below w4.heap.size w4 wr) (fun _ _ _ => 0)
        case atStart => exact ⟨rfl, rfl, Below.refl _ _⟩
        case round =>
          obtain ⟨rfl, rfl, hb5⟩ := hrel
          have hbs5 := hb5.size
          have p5 := p4.below hb5 hl4
          have HB5 := Lib.hid (HB4.out.trans (hb5.mono HB4.out.size))
          have hl5 : w.heap.size < wr.heap.size := by omega
          go_wp2_with fail
          have q6 := Is.new wr (cF n2 (-(m2 : Int))) 100
          have p6 := p5.alloc (.cells (cF n2 (-(m2 : Int))) 100)
          refine (spec_DecOk n2 (-(m2 : Int)) _ ⟨hn2a, hn2b⟩ ⟨by omega, by omega⟩).mono ?_
          rintro e w6 ⟨rfl, hb6⟩
          have q7 := q6.below hb6 (by simp)
          have p7 := p6.below hb6 (by simp; omega)
          obtain ⟨z0, z1⟩ := p7.cells2b
          have ff := fun i => p7.frozen i
          obtain ⟨y0, y1⟩ := q7.cells2b
          have HB6 := Lib.hid (HB5.out.trans ((below_step (below1 wr _) hb6 (by simp)).mono (by omega)))
          have hl6 : w.heap.size < w6.heap.size := by have := hb6.size; simp at this; omega
          have hl7 : wr.heap.size < w6.heap.size := by have := hb6.size; simp at this; omega
          clear hb6
          by_cases hdo : decOk n2 (-(m2 : Int))
          · have HD := Lib.hid (HXX.out.trans (if_pos hdo))
            rw [decide_eq_true hdo]
            clear hdo
            go_wp2_with fail
            obtain ⟨e0, e1⟩ := ((p7.set 0 (.int .i64 (n2))).set 1 (.int .i64 (-(m2 : Int)))).cells2b
            refine bodyPost_ret (v := .tuple #[.agg #[.int .i64 (n2), .int .i64 (-(m2 : Int))], .bool true]) (by simp [results, Tryz.results246, go_sem, e0, e1]) rfl ⟨by rw [HD.out], HB6.out.trans ((below2s _ _ _ _).mono (Nat.le_refl _))⟩
          · have HD := Lib.hid (HXX.out.trans (if_neg hdo))
            rw [decide_eq_false hdo]
            clear hdo
            go_wp2_with fail
            obtain ⟨e0, e1⟩ := ((p7.set 0 (.int .i64 (0))).set 1 (.int .i64 (0))).cells2b
            refine bodyPost_ret (v := .tuple #[.agg #[.int .i64 (0), .int .i64 (0)], .bool false]) (by simp [results, Tryz.results246, go_sem, e0, e1]) rfl ⟨by rw [HD.out], HB6.out.trans ((below2s _ _ _ _).mono (Nat.le_refl _))⟩
set_option maxHeartbeats 4000000 in
theorem impl_DecNew (n : Int) (m : Nat) (w : World) (hn : I64 n) (hm : m ≤ 40) (htab : Lib.TabBelow Tryz.prog w.heap.size w "internal/strconv.uint64pow10" .u64 Lib.pow10Tab) :
    Calls Tryz.prog 244 #[.int .i64 n, .int .i64 (-(m : Int))] w fun e w' => e = .returned (.tuple #[.agg (cF (decNewD n m).1.1 (decNewD n m).1.2), .bool (decNewD n m).2]) ∧ Below w.heap.size w w' := by
  have HT := Lib.hid htab; clear htab
  have HN := Lib.hid hn
  obtain ⟨hn0, hn1⟩ := hn
  have hdl := digN_le n ⟨hn0, hn1⟩
  have q0 := Is.new w (cF 0 0) 100
  have D40 := Lib.hid (show decide ((-40 : Int) ≤ (-(m : Int)) ∧ (-(m : Int)) ≤ 40) = true from decide_eq_true ⟨by omega, by omega⟩)
  have lg : w.heap.size < (w.alloc (.cells (cF 0 0) 100)).heap.size := by simp
  by_cases h17 : 17 < digN n
  · have HD := Lib.hid (show decNewD n m = ((0, 0), false) from if_pos h17)
    go_enter Tryz.func244, Tryz.ntmps244
    go_wp2_with (go_at_call 213; refine (impl_Digits _ _ HN.out (HT.out _ (below1 _ _))).mono ?_; rintro e w2 ⟨rfl, hb⟩; have p2 := q0.below hb lg; obtain ⟨z0, z1⟩ := p2.cells2b; have ff := fun i => p2.frozen i; have hl2 : w.heap.size < w2.heap.size := Nat.lt_of_lt_of_le lg hb.size; have HB2 := Lib.hid (below_step (below1 w _) hb (by simp)))
    obtain ⟨e0, e1⟩ := ((p2.set 0 (.int .i64 (0))).set 1 (.int .i64 (0))).cells2b
    refine bodyPost_ret (v := .tuple #[.agg #[.int .i64 (0), .int .i64 (0)], .bool false]) (by simp [results, Tryz.results244, go_sem, e0, e1]) rfl ⟨by rw [HD.out], HB2.out.trans ((below2s _ _ _ _).mono (Nat.le_refl _))⟩
  by_cases h0 : n = 0
  · have HD := Lib.hid (show decNewD n m = ((0, 0), true) from (if_neg h17).trans (if_pos h0))
    subst h0
    go_enter Tryz.func244, Tryz.ntmps244
    go_wp2_with (first | (go_at_call 213; refine (impl_Digits _ _ HN.out (HT.out _ (below1 _ _))).mono ?_; rintro e w2 ⟨rfl, hb⟩; have p2 := q0.below hb lg; have hl2 : w.heap.size < w2.heap.size := Nat.lt_of_lt_of_le lg hb.size; have HB2 := Lib.hid (below_step (below1 w _) hb (by simp)); clear hb) | (go_at_call 125; refine (impl_within _ _ _ _).mono ?_; rintro e w3 ⟨rfl, hb⟩; rw [D40.out]; have p3 := p2.below hb hl2; obtain ⟨z0, z1⟩ := p3.cells2b; have ff := fun i => p3.frozen i; have hl3 : w.heap.size < w3.heap.size := Nat.lt_of_lt_of_le hl2 hb.size; have HB3 := Lib.hid (HB2.out.trans (hb.mono HB2.out.size)); clear hb))
    obtain ⟨e0, e1⟩ := ((p3.set 0 (.int .i64 (0))).set 1 (.int .i64 (0))).cells2b
    refine bodyPost_ret (v := .tuple #[.agg #[.int .i64 (0), .int .i64 (0)], .bool true]) (by simp [results, Tryz.results244, go_sem, e0, e1]) rfl ⟨by rw [HD.out], HB3.out.trans ((below2s _ _ _ _).mono (Nat.le_refl _))⟩
  have HX := Lib.hid (show decNewD n m = if decOk (stripD m n).1 (-((stripD m n).2 : Int)) then (((stripD m n).1, -((stripD m n).2 : Int)), true) else ((0, 0), false) from (if_neg h17).trans (if_neg h0))
  have h0' : (n == 0) = false := by simpa using h0
  go_enter Tryz.func244, Tryz.ntmps244
  go_wp2_with (first | (go_at_call 213; refine (impl_Digits _ _ HN.out (HT.out _ (below1 _ _))).mono ?_; rintro e w2 ⟨rfl, hb⟩; have p2 := q0.below hb lg; have hl2 : w.heap.size < w2.heap.size := Nat.lt_of_lt_of_le lg hb.size; have HB2 := Lib.hid (below_step (below1 w _) hb (by simp)); clear hb) | (go_at_call 125; refine (impl_within _ _ _ _).mono ?_; rintro e w3 ⟨rfl, hb⟩; rw [D40.out]; have p3 := p2.below hb hl2; have hl3 : w.heap.size < w3.heap.size := Nat.lt_of_lt_of_le hl2 hb.size; have HB3 := Lib.hid (HB2.out.trans (hb.mono HB2.out.size)); clear hb))
  go_loopw [0, 1] (fun nv xv wr => ∃ (n2 : Int) (m2 : Nat), nv = .int .i64 n2 ∧ xv = .int .i64 (-(m2 : Int)) ∧ -9223372036854775808 ≤ n2 ∧ n2 ≤ 9223372036854775807 ∧ m2 ≤ 40 ∧ Hid (stripD m n = stripD m2 n2) ∧ Below w3.heap.size w3 wr) (fun _ xv _ => (-(intOf xv)).toNat)
  case atStart => exact ⟨n, m, rfl, rfl, hn0, hn1, hm, rfl, Below.refl _ _⟩
  case round =>
    obtain ⟨n2, m2, rfl, rfl, hn2a, hn2b, hm2, HS, hb⟩ := hrel
    have hbs := hb.size
    by_cases hgo : n2.tmod 10 = 0 ∧ 0 < m2
    · obtain ⟨hg1, hg2⟩ := hgo
      have HE := Lib.hid (show stripD m n = stripD (m2 - 1) (n2.tdiv 10) from HS.out.trans (stripD_yes m2 n2 hg2 hg1))
      have ht := tdiv_abs n2
      have hg1' : (n2.tmod 10 == 0) = true := by simp [hg1]
      have hxl : -(m2 : Int) < 0 := by omega
      go_wp2_with fail
      go_roundw
      case rel => exact ⟨n2.tdiv 10, m2 - 1, by first | rfl | go_num, by go_num, by omega, by omega, by omega, HE.out, hb⟩
      case measure => simp only [intOf]; first | omega | (simp; omega)
    · have HE := Lib.hid (show stripD m n = (n2, m2) from HS.out.trans (by
        by_cases hz : m2 = 0
        · rw [hz, stripD_zero]
        · exact stripD_no _ _ (fun h => hgo ⟨h, by omega⟩)))
      have hmm : ¬ (-(m2 : Int) > 0) := by omega
      have HXX := Lib.hid (show decNewD n m = if decOk n2 (-(m2 : Int)) then ((n2, -(m2 : Int)), true) else ((0, 0), false) from by rw [HX.out, HE.out])
      have p4 := p3.below hb hl3
      have HB4 := Lib.hid (HB3.out.trans (hb.mono HB3.out.size))
      have hl4 : w.heap.size < wr.heap.size := by omega
      rename World => w4
      have hstop : ((n2.tmod 10 == 0) = false ∧ -(m2 : Int) < 0) ∨ ((n2.tmod 10 == 0) = false ∧ ¬ (-(m2 : Int) < 0)) ∨ ((n2.tmod 10 == 0) = true ∧ ¬ (-(m2 : Int) < 0)) := by
        by_cases hz : n2.tmod 10 = 0
        · right; right; exact ⟨by simp [hz], fun h => hgo ⟨hz, by omega⟩⟩
        · by_cases hy : -(m2 : Int) < 0
          · left; exact ⟨by simp [hz], hy⟩
          · right; left; exact ⟨by simp [hz], hy⟩
      clear HX HE HS hgo
      rcases hstop with ⟨hst, hst2⟩ | ⟨hst, hst2⟩ | ⟨hst, hst2⟩
      all_goals
        go_wp2_with fail
        go_loopw [0, 1] (fun nv xv wr => nv = .int .i64 n2 ∧ xv = .int .i64 (-(m2 : Int)) ∧ Below w4.heap.size w4 wr) (fun _ _ _ => 0)
        case atStart => exact ⟨rfl, rfl, Below.refl _ _⟩
        case round =>
          obtain ⟨rfl, rfl, hb5⟩ := hrel
          have hbs5 := hb5.size
          have p5 := p4.below hb5 hl4
          have HB5 := Lib.hid (HB4.out.trans (hb5.mono HB4.out.size))
          have hl5 : w.heap.size < wr.heap.size := by omega
          go_wp2_with fail
          have q6 := Is.new wr (cF n2 (-(m2 : Int))) 100
          have p6 := p5.alloc (.cells (cF n2 (-(m2 : Int))) 100)
          refine (impl_DecOk n2 (-(m2 : Int)) _ ⟨hn2a, hn2b⟩ ⟨by omega, by omega⟩ (fun V hV => HT.out V (HB5.out.trans ((below1 _ _).mono HB5.out.size |>.trans (hV.mono (by have := HB5.out.size; simp; omega)))))).mono ?_
          rintro e w6 ⟨rfl, hb6⟩
          have q7 := q6.below hb6 (by simp)
          have p7 := p6.below hb6 (by simp; omega)
          obtain ⟨z0, z1⟩ := p7.cells2b
          have ff := fun i => p7.frozen i
          obtain ⟨y0, y1⟩ := q7.cells2b
          have HB6 := Lib.hid (HB5.out.trans ((below_step (below1 wr _) hb6 (by simp)).mono (by omega)))
          have hl6 : w.heap.size < w6.heap.size := by have := hb6.size; simp at this; omega
          have hl7 : wr.heap.size < w6.heap.size := by have := hb6.size; simp at this; omega
          clear hb6
          by_cases hdo : decOk n2 (-(m2 : Int))
          · have HD := Lib.hid (HXX.out.trans (if_pos hdo))
            rw [decide_eq_true hdo]
            clear hdo
            go_wp2_with fail
            obtain ⟨e0, e1⟩ := ((p7.set 0 (.int .i64 (n2))).set 1 (.int .i64 (-(m2 : Int)))).cells2b
            refine bodyPost_ret (v := .tuple #[.agg #[.int .i64 (n2), .int .i64 (-(m2 : Int))], .bool true]) (by simp [results, Tryz.results244, go_sem, e0, e1]) rfl ⟨by rw [HD.out], HB6.out.trans ((below2s _ _ _ _).mono (Nat.le_refl _))⟩
          · have HD := Lib.hid (HXX.out.trans (if_neg hdo))
            rw [decide_eq_false hdo]
            clear hdo
            go_wp2_with fail
            obtain ⟨e0, e1⟩ := ((p7.set 0 (.int .i64 (0))).set 1 (.int .i64 (0))).cells2b
            refine bodyPost_ret (v := .tuple #[.agg #[.int .i64 (0), .int .i64 (0)], .bool false]) (by simp [results, Tryz.results244, go_sem, e0, e1]) rfl ⟨by rw [HD.out], HB6.out.trans ((below2s _ _ _ _).mono (Nat.le_refl _))⟩
theorem spec_DecNewA (n : Int) (m : Nat) (a b : Int) (w : World) (ha : a = n) (hb : b = -(m : Int)) (hn : I64 n) (hm : m ≤ 40) :
    Calls Tryz.prog 246 #[.int .i64 a, .int .i64 b] w fun e w' => e = .returned (.tuple #[.agg (cF (decNewD n m).1.1 (decNewD n m).1.2), .bool (decNewD n m).2]) ∧ Below w.heap.size w w' := by
  rw [ha, hb]; exact spec_DecNew n m w hn hm
theorem impl_DecNewA (n : Int) (m : Nat) (a b : Int) (w : World) (ha : a = n) (hb : b = -(m : Int)) (hn : I64 n) (hm : m ≤ 40) (htab : Lib.TabBelow Tryz.prog w.heap.size w "internal/strconv.uint64pow10" .u64 Lib.pow10Tab) :
    Calls Tryz.prog 244 #[.int .i64 a, .int .i64 b] w fun e w' => e = .returned (.tuple #[.agg (cF (decNewD n m).1.1 (decNewD n m).1.2), .bool (decNewD n m).2]) ∧ Below w.heap.size w w' := by
  rw [ha, hb]; exact impl_DecNew n m w hn hm htab
end Go.Proofs.YtggdenkmohnijaaGreatDoor
