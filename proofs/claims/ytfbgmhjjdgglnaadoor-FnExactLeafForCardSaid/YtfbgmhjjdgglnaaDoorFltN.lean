/- Contracts and lemmas for the proofs of this seat: FltN. No condition beyond those stated. -/
import Derived.Test.YtfbgmhjjdgglnaaDoorRows
import Derived.WalkKit
import Derived.ProofKit
import Derived.OpenShut
import Derived.Handy
import Derived.Lib.Hide
import Derived.Lib.SmallJoins
import Derived.Deep.RegionHeld3
import Derived.Test.YtfbgmhjjdgglnaaDoorBase
import Derived.Test.YtfbgmhjjdgglnaaDoorGen
import Derived.Test.YtfbgmhjjdgglnaaDoorKit
import Derived.Test.YtfbgmhjjdgglnaaDoorMark
import Derived.Test.YtfbgmhjjdgglnaaDoorApp
import Derived.Test.YtfbgmhjjdgglnaaDoorMarkV
import Derived.Test.YtfbgmhjjdgglnaaDoorLawVal
import Derived.Test.YtfbgmhjjdgglnaaDoorCopy
import Derived.Test.YtfbgmhjjdgglnaaDoorPathAt
import Derived.Test.YtfbgmhjjdgglnaaDoorPathAt2
import Derived.Test.YtfbgmhjjdgglnaaDoorShelf
import Derived.Test.YtfbgmhjjdgglnaaDoorNum
import Derived.Test.YtfbgmhjjdgglnaaDoorTextF
import Derived.Test.YtfbgmhjjdgglnaaDoorValF
import Derived.Test.YtfbgmhjjdgglnaaDoorValF2
import Derived.Test.YtfbgmhjjdgglnaaDoorValF3
import Derived.Test.YtfbgmhjjdgglnaaDoorDecF
import Derived.Test.YtfbgmhjjdgglnaaDoorDecF2
import Derived.Test.YtfbgmhjjdgglnaaDoorFltD
import Derived.Test.YtfbgmhjjdgglnaaDoorNearP
namespace Go.Proofs.YtfbgmhjjdgglnaaDoor
open Go.ChangeShapes Go.WideShapes Go.ChangeAt Go.RowKit Go.Joins
set_option linter.unusedVariables false
set_option maxRecDepth 100000
set_option maxHeartbeats 4000000 in
theorem spec_FltNew (m e : Int) (w : World) (hm : I64 m) (he : I64 e) :
    Calls Tryd.prog 91 #[.int .i64 m, .int .i64 e] w fun ee w' => ee = .returned (.tuple #[.agg (cF (fltNewD m e).1.1 (fltNewD m e).1.2), .bool (fltNewD m e).2]) ∧ Below w.heap.size w w' := by
  obtain ⟨hm0, hm1⟩ := hm
  obtain ⟨he0, he1⟩ := he
  have q0 := Is.new w (cF 0 0) 65
  have lg : w.heap.size < (w.alloc (.cells (cF 0 0) 65)).heap.size := by simp
  by_cases hA : -1000000000000000 ≤ m ∧ m ≤ 1000000000000000
  case neg =>
    have HD := Lib.hid (show fltNewD m e = ((0, 0), false) from if_pos (fun h => hA h.1))
    have DA := Lib.hid (show decide (-1000000000000000 ≤ m ∧ m ≤ 1000000000000000) = false from decide_eq_false hA)
    clear hA
    go_enter Tryd.func91, Tryd.ntmps91
    go_wp2_with (go_at_call 67; refine (spec_l1In _ _ _ _).mono ?_; rintro ee w2 ⟨rfl, hb⟩; rw [DA.out]; have p2 := q0.below hb lg; obtain ⟨z0, z1⟩ := p2.cells2b; have ff := fun i => p2.frozen i; have hl2 : w.heap.size < w2.heap.size := Nat.lt_of_lt_of_le lg hb.size; have HB2 := Lib.hid (below_step (below1 w _) hb (by simp)))
    obtain ⟨e0, e1⟩ := ((p2.set 0 (.int .i64 (0))).set 1 (.int .i64 (0))).cells2b
    refine bodyPost_ret (v := .tuple #[.agg #[.int .i64 (0), .int .i64 (0)], .bool false]) (by simp [results, Tryd.results91, go_sem, e0, e1]) rfl ⟨by rw [HD.out], HB2.out.trans ((below2s _ _ _ _).mono (Nat.le_refl _))⟩
  have DA := Lib.hid (show decide (-1000000000000000 ≤ m ∧ m ≤ 1000000000000000) = true from decide_eq_true hA)
  by_cases hE : -100 ≤ e ∧ e ≤ 100
  case neg =>
    have HD := Lib.hid (show fltNewD m e = ((0, 0), false) from if_pos (fun h => hE h.2))
    have DE := Lib.hid (show decide (-100 ≤ e ∧ e ≤ 100) = false from decide_eq_false hE)
    clear hA hE
    go_enter Tryd.func91, Tryd.ntmps91
    go_wp2_with fail
    refine (spec_l1In m _ _ _).mono ?_
    rintro ee w2 ⟨rfl, hb⟩
    rw [DA.out]
    have p2 := q0.below hb lg
    have hl2 : w.heap.size < w2.heap.size := Nat.lt_of_lt_of_le lg hb.size
    have HB2 := Lib.hid (below_step (below1 w _) hb (by simp))
    clear hb
    go_wp2_with fail
    refine (spec_l1In e _ _ _).mono ?_
    rintro ee w3 ⟨rfl, hb⟩
    rw [DE.out]
    have p3 := p2.below hb hl2
    obtain ⟨z0, z1⟩ := p3.cells2b
    have ff := fun i => p3.frozen i
    have hl3 : w.heap.size < w3.heap.size := Nat.lt_of_lt_of_le hl2 hb.size
    have HB3 := Lib.hid (HB2.out.trans (hb.mono HB2.out.size))
    clear hb
    go_wp2_with fail
    obtain ⟨e0, e1⟩ := ((p3.set 0 (.int .i64 (0))).set 1 (.int .i64 (0))).cells2b
    refine bodyPost_ret (v := .tuple #[.agg #[.int .i64 (0), .int .i64 (0)], .bool false]) (by simp [results, Tryd.results91, go_sem, e0, e1]) rfl ⟨by rw [HD.out], HB3.out.trans ((below2s _ _ _ _).mono (Nat.le_refl _))⟩
  have DE := Lib.hid (show decide (-100 ≤ e ∧ e ≤ 100) = true from decide_eq_true hE)
  by_cases h0 : m = 0
  · have HD := Lib.hid (show fltNewD m e = ((0, 0), true) from (if_neg (fun hh => hh ⟨hA, hE⟩)).trans (if_pos h0))
    subst h0
    clear hA hE
    go_enter Tryd.func91, Tryd.ntmps91
    go_wp2_with fail
    refine (spec_l1In 0 _ _ _).mono ?_
    rintro ee w2 ⟨rfl, hb⟩
    rw [DA.out]
    have p2 := q0.below hb lg
    have hl2 : w.heap.size < w2.heap.size := Nat.lt_of_lt_of_le lg hb.size
    have HB2 := Lib.hid (below_step (below1 w _) hb (by simp))
    clear hb
    go_wp2_with fail
    refine (spec_l1In e _ _ _).mono ?_
    rintro ee w3 ⟨rfl, hb⟩
    rw [DE.out]
    have p3 := p2.below hb hl2
    obtain ⟨z0, z1⟩ := p3.cells2b
    have ff := fun i => p3.frozen i
    have hl3 : w.heap.size < w3.heap.size := Nat.lt_of_lt_of_le hl2 hb.size
    have HB3 := Lib.hid (HB2.out.trans (hb.mono HB2.out.size))
    clear hb
    go_wp2_with fail
    obtain ⟨e0, e1⟩ := ((p3.set 0 (.int .i64 (0))).set 1 (.int .i64 (0))).cells2b
    refine bodyPost_ret (v := .tuple #[.agg #[.int .i64 (0), .int .i64 (0)], .bool true]) (by simp [results, Tryd.results91, go_sem, e0, e1]) rfl ⟨by rw [HD.out], HB3.out.trans ((below2s _ _ _ _).mono (Nat.le_refl _))⟩
  have HX := Lib.hid (fltNewD_go m e ⟨hA, hE⟩ h0)
  have h0' : (m == 0) = false := by simpa using h0
  have hpow : m.natAbs < 2 ^ 64 := by rw [show (2 : Nat) ^ 64 = 18446744073709551616 from by decide]; omega
  go_enter Tryd.func91, Tryd.ntmps91
  go_wp2_with fail
  refine (spec_l1In m _ _ _).mono ?_
  rintro ee w2 ⟨rfl, hb⟩
  rw [DA.out]
  have p2 := q0.below hb lg
  have hl2 : w.heap.size < w2.heap.size := Nat.lt_of_lt_of_le lg hb.size
  have HB2 := Lib.hid (below_step (below1 w _) hb (by simp))
  clear hb
  go_wp2_with fail
  refine (spec_l1In e _ _ _).mono ?_
  rintro ee w3 ⟨rfl, hb⟩
  rw [DE.out]
  have p3 := p2.below hb hl2
  have hl3 : w.heap.size < w3.heap.size := Nat.lt_of_lt_of_le hl2 hb.size
  have HB3 := Lib.hid (HB2.out.trans (hb.mono HB2.out.size))
  clear hb
  go_wp2_with fail
  go_loopw [0, 1] (fun nv xv wr => ∃ (n2 e2 : Int) (k : Nat), nv = .int .i64 n2 ∧ xv = .int .i64 e2 ∧ n2 ≠ 0 ∧ (-1000000000000000 ≤ n2 ∧ n2 ≤ 1000000000000000) ∧ (-100 ≤ e2 ∧ e2 + k = e + 64 ∧ e2 ≤ 164) ∧ Hid (n2.natAbs < 2 ^ k) ∧ Hid (stripE 64 m e = stripE k n2 e2) ∧ Below w3.heap.size w3 wr) (fun nv _ _ => (intOf nv).natAbs)
  case atStart => exact ⟨m, e, 64, rfl, rfl, h0, hA, by omega, Lib.hid hpow, Lib.hid rfl, Below.refl _ _⟩
  case round =>
    obtain ⟨n2, e2, k, rfl, rfl, hn0, ⟨hn2a, hn2b⟩, ⟨he2a, he2b, he2c⟩, HK, HS, hb⟩ := hrel
    have hbs := hb.size
    by_cases hg1 : n2.tmod 2 = 0
    · have ht := (tdiv2_abs n2 hg1).1
      have hk : 0 < k := by
        have := HK.out
        by_cases hz : k = 0
        · subst hz; simp at this; omega
        · omega
      have HE := Lib.hid (show stripE 64 m e = stripE (k - 1) (n2.tdiv 2) (e2 + 1) from HS.out.trans (stripE_yes k n2 e2 hk hg1))
      have HK2 := Lib.hid (show (n2.tdiv 2).natAbs < 2 ^ (k - 1) from by
        have h1 := HK.out
        rw [show k = (k - 1) + 1 from by omega, Nat.pow_succ] at h1; omega)
      have hg1' : (n2.tmod 2 == 0) = true := by simp [hg1]
      go_wp2_with fail
      go_roundw
      case rel => exact ⟨n2.tdiv 2, e2 + 1, k - 1, by first | rfl | go_num, by go_num, by omega, by omega, by omega, HK2, HE, hb⟩
      case measure => simp only [intOf]; first | omega | (simp; omega)
    · have HE := Lib.hid (show stripE 64 m e = (n2, e2) from HS.out.trans (stripE_no _ _ _ hg1))
      have HXX := Lib.hid (show fltNewD m e = if fltOk n2 e2 then ((n2, e2), true) else ((0, 0), false) from by rw [HX.out, HE.out])
      have hg1' : (n2.tmod 2 == 0) = false := by simpa using hg1
      have p4 := p3.below hb hl3
      have HB4 := Lib.hid (HB3.out.trans (hb.mono HB3.out.size))
      have hl4 : w.heap.size < wr.heap.size := by omega
      clear HX HE HS HK
      rename World => w4
      go_wp2_with fail
      have q6 := Is.new w4 (cF n2 e2) 65
      have p6 := p4.alloc (.cells (cF n2 e2) 65)
      refine (spec_FltOk n2 e2 _ ⟨by omega, by omega⟩ ⟨by omega, by omega⟩).mono ?_
      rintro ee w6 ⟨rfl, hb6⟩
      have q7 := q6.below hb6 (by simp)
      have p7 := p6.below hb6 (by simp; omega)
      obtain ⟨z0, z1⟩ := p7.cells2b
      have ff := fun i => p7.frozen i
      obtain ⟨y0, y1⟩ := q7.cells2b
      have HB6 := Lib.hid (HB4.out.trans ((below_step (below1 w4 _) hb6 (by simp)).mono (by omega)))
      have hl6 : w.heap.size < w6.heap.size := by have := hb6.size; simp at this; omega
      have hl7 : w4.heap.size < w6.heap.size := by have := hb6.size; simp at this; omega
      clear hb6
      by_cases hdo : fltOk n2 e2
      · have HD := Lib.hid (HXX.out.trans (if_pos hdo))
        rw [decide_eq_true hdo]
        clear hdo
        go_wp2_with fail
        obtain ⟨e0, e1⟩ := ((p7.set 0 (.int .i64 (n2))).set 1 (.int .i64 e2)).cells2b
        refine bodyPost_ret (v := .tuple #[.agg #[.int .i64 (n2), .int .i64 e2], .bool true]) (by simp [results, Tryd.results91, go_sem, e0, e1]) rfl ⟨by rw [HD.out], HB6.out.trans ((below2s _ _ _ _).mono (Nat.le_refl _))⟩
      · have HD := Lib.hid (HXX.out.trans (if_neg hdo))
        rw [decide_eq_false hdo]
        clear hdo
        go_wp2_with fail
        obtain ⟨e0, e1⟩ := ((p7.set 0 (.int .i64 (0))).set 1 (.int .i64 (0))).cells2b
        refine bodyPost_ret (v := .tuple #[.agg #[.int .i64 (0), .int .i64 (0)], .bool false]) (by simp [results, Tryd.results91, go_sem, e0, e1]) rfl ⟨by rw [HD.out], HB6.out.trans ((below2s _ _ _ _).mono (Nat.le_refl _))⟩
set_option maxHeartbeats 4000000 in
theorem impl_FltNew (m e : Int) (w : World) (hm : I64 m) (he : I64 e) :
    Calls Tryd.prog 124 #[.int .i64 m, .int .i64 e] w fun ee w' => ee = .returned (.tuple #[.agg (cF (fltNewD m e).1.1 (fltNewD m e).1.2), .bool (fltNewD m e).2]) ∧ Below w.heap.size w w' := by
  obtain ⟨hm0, hm1⟩ := hm
  obtain ⟨he0, he1⟩ := he
  have q0 := Is.new w (cF 0 0) 65
  have lg : w.heap.size < (w.alloc (.cells (cF 0 0) 65)).heap.size := by simp
  by_cases hA : -1000000000000000 ≤ m ∧ m ≤ 1000000000000000
  case neg =>
    have HD := Lib.hid (show fltNewD m e = ((0, 0), false) from if_pos (fun h => hA h.1))
    have DA := Lib.hid (show decide (-1000000000000000 ≤ m ∧ m ≤ 1000000000000000) = false from decide_eq_false hA)
    clear hA
    go_enter Tryd.func124, Tryd.ntmps124
    go_wp2_with (go_at_call 56; refine (impl_within _ _ _ _).mono ?_; rintro ee w2 ⟨rfl, hb⟩; rw [DA.out]; have p2 := q0.below hb lg; obtain ⟨z0, z1⟩ := p2.cells2b; have ff := fun i => p2.frozen i; have hl2 : w.heap.size < w2.heap.size := Nat.lt_of_lt_of_le lg hb.size; have HB2 := Lib.hid (below_step (below1 w _) hb (by simp)))
    obtain ⟨e0, e1⟩ := ((p2.set 0 (.int .i64 (0))).set 1 (.int .i64 (0))).cells2b
    refine bodyPost_ret (v := .tuple #[.agg #[.int .i64 (0), .int .i64 (0)], .bool false]) (by simp [results, Tryd.results124, go_sem, e0, e1]) rfl ⟨by rw [HD.out], HB2.out.trans ((below2s _ _ _ _).mono (Nat.le_refl _))⟩
  have DA := Lib.hid (show decide (-1000000000000000 ≤ m ∧ m ≤ 1000000000000000) = true from decide_eq_true hA)
  by_cases hE : -100 ≤ e ∧ e ≤ 100
  case neg =>
    have HD := Lib.hid (show fltNewD m e = ((0, 0), false) from if_pos (fun h => hE h.2))
    have DE := Lib.hid (show decide (-100 ≤ e ∧ e ≤ 100) = false from decide_eq_false hE)
    clear hA hE
    go_enter Tryd.func124, Tryd.ntmps124
    go_wp2_with fail
    refine (impl_within m _ _ _).mono ?_
    rintro ee w2 ⟨rfl, hb⟩
    rw [DA.out]
    have p2 := q0.below hb lg
    have hl2 : w.heap.size < w2.heap.size := Nat.lt_of_lt_of_le lg hb.size
    have HB2 := Lib.hid (below_step (below1 w _) hb (by simp))
    clear hb
    go_wp2_with fail
    refine (impl_within e _ _ _).mono ?_
    rintro ee w3 ⟨rfl, hb⟩
    rw [DE.out]
    have p3 := p2.below hb hl2
    obtain ⟨z0, z1⟩ := p3.cells2b
    have ff := fun i => p3.frozen i
    have hl3 : w.heap.size < w3.heap.size := Nat.lt_of_lt_of_le hl2 hb.size
    have HB3 := Lib.hid (HB2.out.trans (hb.mono HB2.out.size))
    clear hb
    go_wp2_with fail
    obtain ⟨e0, e1⟩ := ((p3.set 0 (.int .i64 (0))).set 1 (.int .i64 (0))).cells2b
    refine bodyPost_ret (v := .tuple #[.agg #[.int .i64 (0), .int .i64 (0)], .bool false]) (by simp [results, Tryd.results124, go_sem, e0, e1]) rfl ⟨by rw [HD.out], HB3.out.trans ((below2s _ _ _ _).mono (Nat.le_refl _))⟩
  have DE := Lib.hid (show decide (-100 ≤ e ∧ e ≤ 100) = true from decide_eq_true hE)
  by_cases h0 : m = 0
  · have HD := Lib.hid (show fltNewD m e = ((0, 0), true) from (if_neg (fun hh => hh ⟨hA, hE⟩)).trans (if_pos h0))
    subst h0
    clear hA hE
    go_enter Tryd.func124, Tryd.ntmps124
    go_wp2_with fail
    refine (impl_within 0 _ _ _).mono ?_
    rintro ee w2 ⟨rfl, hb⟩
    rw [DA.out]
    have p2 := q0.below hb lg
    have hl2 : w.heap.size < w2.heap.size := Nat.lt_of_lt_of_le lg hb.size
    have HB2 := Lib.hid (below_step (below1 w _) hb (by simp))
    clear hb
    go_wp2_with fail
    refine (impl_within e _ _ _).mono ?_
    rintro ee w3 ⟨rfl, hb⟩
    rw [DE.out]
    have p3 := p2.below hb hl2
    obtain ⟨z0, z1⟩ := p3.cells2b
    have ff := fun i => p3.frozen i
    have hl3 : w.heap.size < w3.heap.size := Nat.lt_of_lt_of_le hl2 hb.size
    have HB3 := Lib.hid (HB2.out.trans (hb.mono HB2.out.size))
    clear hb
    go_wp2_with fail
    obtain ⟨e0, e1⟩ := ((p3.set 0 (.int .i64 (0))).set 1 (.int .i64 (0))).cells2b
    refine bodyPost_ret (v := .tuple #[.agg #[.int .i64 (0), .int .i64 (0)], .bool true]) (by simp [results, Tryd.results124, go_sem, e0, e1]) rfl ⟨by rw [HD.out], HB3.out.trans ((below2s _ _ _ _).mono (Nat.le_refl _))⟩
  have HX := Lib.hid (fltNewD_go m e ⟨hA, hE⟩ h0)
  have h0' : (m == 0) = false := by simpa using h0
  have hpow : m.natAbs < 2 ^ 64 := by rw [show (2 : Nat) ^ 64 = 18446744073709551616 from by decide]; omega
  go_enter Tryd.func124, Tryd.ntmps124
  go_wp2_with fail
  refine (impl_within m _ _ _).mono ?_
  rintro ee w2 ⟨rfl, hb⟩
  rw [DA.out]
  have p2 := q0.below hb lg
  have hl2 : w.heap.size < w2.heap.size := Nat.lt_of_lt_of_le lg hb.size
  have HB2 := Lib.hid (below_step (below1 w _) hb (by simp))
  clear hb
  go_wp2_with fail
  refine (impl_within e _ _ _).mono ?_
  rintro ee w3 ⟨rfl, hb⟩
  rw [DE.out]
  have p3 := p2.below hb hl2
  have hl3 : w.heap.size < w3.heap.size := Nat.lt_of_lt_of_le hl2 hb.size
  have HB3 := Lib.hid (HB2.out.trans (hb.mono HB2.out.size))
  clear hb
  go_wp2_with fail
  go_loopw [0, 1] (fun nv xv wr => ∃ (n2 e2 : Int) (k : Nat), nv = .int .i64 n2 ∧ xv = .int .i64 e2 ∧ n2 ≠ 0 ∧ (-1000000000000000 ≤ n2 ∧ n2 ≤ 1000000000000000) ∧ (-100 ≤ e2 ∧ e2 + k = e + 64 ∧ e2 ≤ 164) ∧ Hid (n2.natAbs < 2 ^ k) ∧ Hid (stripE 64 m e = stripE k n2 e2) ∧ Below w3.heap.size w3 wr) (fun nv _ _ => (intOf nv).natAbs)
  case atStart => exact ⟨m, e, 64, rfl, rfl, h0, hA, by omega, Lib.hid hpow, Lib.hid rfl, Below.refl _ _⟩
  case round =>
    obtain ⟨n2, e2, k, rfl, rfl, hn0, ⟨hn2a, hn2b⟩, ⟨he2a, he2b, he2c⟩, HK, HS, hb⟩ := hrel
    have hbs := hb.size
    by_cases hg1 : n2.tmod 2 = 0
    · have ht := (tdiv2_abs n2 hg1).1
      have hk : 0 < k := by
        have := HK.out
        by_cases hz : k = 0
        · subst hz; simp at this; omega
        · omega
      have HE := Lib.hid (show stripE 64 m e = stripE (k - 1) (n2.tdiv 2) (e2 + 1) from HS.out.trans (stripE_yes k n2 e2 hk hg1))
      have HK2 := Lib.hid (show (n2.tdiv 2).natAbs < 2 ^ (k - 1) from by
        have h1 := HK.out
        rw [show k = (k - 1) + 1 from by omega, Nat.pow_succ] at h1; omega)
      have hg1' : (n2.tmod 2 == 0) = true := by simp [hg1]
      go_wp2_with fail
      go_roundw
      case rel => exact ⟨n2.tdiv 2, e2 + 1, k - 1, by first | rfl | go_num, by go_num, by omega, by omega, by omega, HK2, HE, hb⟩
      case measure => simp only [intOf]; first | omega | (simp; omega)
    · have HE := Lib.hid (show stripE 64 m e = (n2, e2) from HS.out.trans (stripE_no _ _ _ hg1))
      have HXX := Lib.hid (show fltNewD m e = if fltOk n2 e2 then ((n2, e2), true) else ((0, 0), false) from by rw [HX.out, HE.out])
      have hg1' : (n2.tmod 2 == 0) = false := by simpa using hg1
      have p4 := p3.below hb hl3
      have HB4 := Lib.hid (HB3.out.trans (hb.mono HB3.out.size))
      have hl4 : w.heap.size < wr.heap.size := by omega
      clear HX HE HS HK
      rename World => w4
      go_wp2_with fail
      have q6 := Is.new w4 (cF n2 e2) 65
      have p6 := p4.alloc (.cells (cF n2 e2) 65)
      refine (impl_FltOk n2 e2 _ ⟨by omega, by omega⟩ ⟨by omega, by omega⟩).mono ?_
      rintro ee w6 ⟨rfl, hb6⟩
      have q7 := q6.below hb6 (by simp)
      have p7 := p6.below hb6 (by simp; omega)
      obtain ⟨z0, z1⟩ := p7.cells2b
      have ff := fun i => p7.frozen i
      obtain ⟨y0, y1⟩ := q7.cells2b
      have HB6 := Lib.hid (HB4.out.trans ((below_step (below1 w4 _) hb6 (by simp)).mono (by omega)))
      have hl6 : w.heap.size < w6.heap.size := by have := hb6.size; simp at this; omega
      have hl7 : w4.heap.size < w6.heap.size := by have := hb6.size; simp at this; omega
      clear hb6
      by_cases hdo : fltOk n2 e2
      · have HD := Lib.hid (HXX.out.trans (if_pos hdo))
        rw [decide_eq_true hdo]
        clear hdo
        go_wp2_with fail
        obtain ⟨e0, e1⟩ := ((p7.set 0 (.int .i64 (n2))).set 1 (.int .i64 e2)).cells2b
        refine bodyPost_ret (v := .tuple #[.agg #[.int .i64 (n2), .int .i64 e2], .bool true]) (by simp [results, Tryd.results124, go_sem, e0, e1]) rfl ⟨by rw [HD.out], HB6.out.trans ((below2s _ _ _ _).mono (Nat.le_refl _))⟩
      · have HD := Lib.hid (HXX.out.trans (if_neg hdo))
        rw [decide_eq_false hdo]
        clear hdo
        go_wp2_with fail
        obtain ⟨e0, e1⟩ := ((p7.set 0 (.int .i64 (0))).set 1 (.int .i64 (0))).cells2b
        refine bodyPost_ret (v := .tuple #[.agg #[.int .i64 (0), .int .i64 (0)], .bool false]) (by simp [results, Tryd.results124, go_sem, e0, e1]) rfl ⟨by rw [HD.out], HB6.out.trans ((below2s _ _ _ _).mono (Nat.le_refl _))⟩
end Go.Proofs.YtfbgmhjjdgglnaaDoor
