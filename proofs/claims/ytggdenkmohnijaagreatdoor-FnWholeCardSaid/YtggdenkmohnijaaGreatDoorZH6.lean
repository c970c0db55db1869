/- Texts of this proof, merged: OwnT, OwnS, Every. No condition beyond what each theorem states. -/
import Derived.Test.YtggdenkmohnijaaGreatDoorZH5
set_option linter.unusedSimpArgs false
set_option linter.unnecessarySimpa false
namespace Go.Proofs.YtggdenkmohnijaaGreatDoor
open Go.ChangeShapes Go.WideShapes Go.ChangeAt Go.RowKit Go.Joins
set_option linter.unusedVariables false
set_option maxRecDepth 100000
def ownQ (k n x : Int) (s : ByteArray) (m : Nat) : Prop :=
  (k = 7 ∨ k = 8 ∨ s.toList = []) ∧ (k = 4 ∨ k = 6 ∨ x = 0) ∧ (9 ≤ k ∨ m = 0) ∧
  ((k = 1 ∧ n = 0) ∨ (k = 2 ∧ (n = 0 ∨ n = 1)) ∨ (k = 3 ∧ -1000000000000000 ≤ n ∧ n ≤ 1000000000000000) ∨ (k = 4 ∧ fltOk n x) ∨ (k = 5 ∧ 0 ≤ n ∧ n ≤ 2) ∨ (k = 6 ∧ x < 0 ∧ decOk n x) ∨
   (k = 7 ∧ n = 0 ∧ Lib.validD s.data.toList = true) ∨ (k = 8 ∧ n = 0) ∨ (k = 9 ∧ n = 0) ∨ (k = 10 ∧ n = 0 ∧ m % 2 = 0) ∨ (k = 11 ∧ (0 ≤ n ∧ n ≤ 1000000000000000) ∧ m = 1))
instance (k n x : Int) (s : ByteArray) (m : Nat) : Decidable (ownQ k n x s m) := by unfold ownQ; exact inferInstance
abbrev ownP (t : T) : Prop := ownQ t.k t.n t.x t.s t.l.length
theorem ownQ_out (k n x : Int) (s : ByteArray) (m : Nat) (h : k < 1 ∨ 11 < k) : ¬ ownQ k n x s m := by unfold ownQ; omega
theorem own1 (n x : Int) (s : ByteArray) (m : Nat) : ownQ 1 n x s m ↔ s.toList = [] ∧ x = 0 ∧ m = 0 ∧ n = 0 := by
 unfold ownQ
 by_cases hs : s.toList = []
 all_goals simp only [hs, true_and, false_and, and_true, or_false, or_true, iff_self, false_iff, not_false_eq_true]
 all_goals first | omega | (simp; done) | (simp; omega)
theorem own2 (n x : Int) (s : ByteArray) (m : Nat) : ownQ 2 n x s m ↔ s.toList = [] ∧ x = 0 ∧ m = 0 ∧ (n = 0 ∨ n = 1) := by
 unfold ownQ
 by_cases hs : s.toList = []
 all_goals simp only [hs, true_and, false_and, and_true, or_false, or_true, iff_self, false_iff, not_false_eq_true]
 all_goals first | omega | (simp; done) | (simp; omega)
theorem own3 (n x : Int) (s : ByteArray) (m : Nat) : ownQ 3 n x s m ↔ s.toList = [] ∧ x = 0 ∧ m = 0 ∧ (-1000000000000000 ≤ n ∧ n ≤ 1000000000000000) := by
 unfold ownQ
 by_cases hs : s.toList = []
 all_goals simp only [hs, true_and, false_and, and_true, or_false, or_true, iff_self, false_iff, not_false_eq_true]
 all_goals first | omega | (simp; done) | (simp; omega)
theorem own4 (n x : Int) (s : ByteArray) (m : Nat) : ownQ 4 n x s m ↔ s.toList = [] ∧ m = 0 ∧ fltOk n x := by
 unfold ownQ
 by_cases hs : s.toList = []
 all_goals simp only [hs, true_and, false_and, and_true, or_false, or_true, iff_self, false_iff, not_false_eq_true]
 all_goals by_cases hf : fltOk n x
 all_goals simp only [hf, true_and, false_and, and_true, and_false, or_false, or_true]
 all_goals first | omega | (simp; done) | (simp; omega)
theorem own5 (n x : Int) (s : ByteArray) (m : Nat) : ownQ 5 n x s m ↔ s.toList = [] ∧ x = 0 ∧ m = 0 ∧ (0 ≤ n ∧ n ≤ 2) := by
 unfold ownQ
 by_cases hs : s.toList = []
 all_goals simp only [hs, true_and, false_and, and_true, or_false, or_true, iff_self, false_iff, not_false_eq_true]
 all_goals first | omega | (simp; done) | (simp; omega)
theorem own6 (n x : Int) (s : ByteArray) (m : Nat) : ownQ 6 n x s m ↔ s.toList = [] ∧ m = 0 ∧ (x < 0 ∧ decOk n x) := by
 unfold ownQ
 by_cases hs : s.toList = []
 all_goals simp only [hs, true_and, false_and, and_true, or_false, or_true, iff_self, false_iff, not_false_eq_true]
 all_goals by_cases hf : decOk n x
 all_goals simp only [hf, true_and, false_and, and_true, and_false, or_false, or_true]
 all_goals first | omega | (simp; done) | (simp; omega)
theorem own7 (n x : Int) (s : ByteArray) (m : Nat) : ownQ 7 n x s m ↔ x = 0 ∧ m = 0 ∧ (n = 0 ∧ Lib.validD s.data.toList = true) := by
 unfold ownQ
 by_cases hf : Lib.validD s.data.toList = true
 all_goals simp only [hf, true_and, false_and, and_true, and_false, or_false, or_true]
 all_goals first | omega | (simp; done) | (simp; omega)
theorem own8 (n x : Int) (s : ByteArray) (m : Nat) : ownQ 8 n x s m ↔ x = 0 ∧ m = 0 ∧ n = 0 := by
 unfold ownQ
 all_goals first | omega | (simp; done) | (simp; omega)
theorem own9 (n x : Int) (s : ByteArray) (m : Nat) : ownQ 9 n x s m ↔ s.toList = [] ∧ x = 0 ∧ n = 0 := by
 unfold ownQ
 by_cases hs : s.toList = []
 all_goals simp only [hs, true_and, false_and, and_true, or_false, or_true, iff_self, false_iff, not_false_eq_true]
 all_goals first | omega | (simp; done) | (simp; omega)
theorem own10 (n x : Int) (s : ByteArray) (m : Nat) : ownQ 10 n x s m ↔ s.toList = [] ∧ x = 0 ∧ (n = 0 ∧ m % 2 = 0) := by
 unfold ownQ
 by_cases hs : s.toList = []
 all_goals simp only [hs, true_and, false_and, and_true, or_false, or_true, iff_self, false_iff, not_false_eq_true]
 all_goals first | omega | (simp; done) | (simp; omega)
theorem own11 (n x : Int) (s : ByteArray) (m : Nat) : ownQ 11 n x s m ↔ s.toList = [] ∧ x = 0 ∧ ((0 ≤ n ∧ n ≤ 1000000000000000) ∧ m = 1) := by
 unfold ownQ
 by_cases hs : s.toList = []
 all_goals simp only [hs, true_and, false_and, and_true, or_false, or_true, iff_self, false_iff, not_false_eq_true]
 all_goals first | omega | (simp; done) | (simp; omega)
set_option maxHeartbeats 4000000 in
theorem impl_own_1 (n x : Int) (s : ByteArray) (a : Option Addr) (m cap : Nat) (w : World) (hlc : m ≤ cap) (hcap : cap ≤ 9223372036854775807) (hn : I64 n) (hx : I64 x) :
  Calls Tryz.prog 86 #[.agg #[Value.int IntKind.i64 1, Value.int IntKind.i64 n, Value.int IntKind.i64 x, Value.string s, Value.slice a m cap]] w fun e w' => e = .returned (.bool (decide (ownQ 1 n x s m))) ∧ Below w.heap.size w w' := by
 have HN := Lib.hid hn; have HX := Lib.hid hx
 obtain ⟨hn0, hn1⟩ := hn; obtain ⟨hx0, hx1⟩ := hx
 go_enter Tryz.func86, Tryz.ntmps86
 go_wp2_with fail
 all_goals
  go_ret
  refine ⟨ret_b ?_, by first | exact below1 _ _ | exact below_step (below1 _ _) hb (by simp)⟩
  first | (exact (decide_eq_false (fun h => absurd ((own1 n x s m).1 h).1 (by assumption))).symm) | (exact (decide_eq_false (fun h => by have g := (own1 n x s m).1 h; have g2 := g.2; omega)).symm) | (exact (decide_eq_decide.2 ((own1 n x s m).trans ⟨fun h => by have g := h.2; omega, fun h => ⟨by assumption, by omega, by omega, by omega⟩⟩)).symm) | (exact (decide_eq_true ((own1 n x s m).2 ⟨by assumption, by omega, by omega, by omega⟩)).symm)
set_option maxHeartbeats 4000000 in
theorem impl_own_2 (n x : Int) (s : ByteArray) (a : Option Addr) (m cap : Nat) (w : World) (hlc : m ≤ cap) (hcap : cap ≤ 9223372036854775807) (hn : I64 n) (hx : I64 x) :
  Calls Tryz.prog 86 #[.agg #[Value.int IntKind.i64 2, Value.int IntKind.i64 n, Value.int IntKind.i64 x, Value.string s, Value.slice a m cap]] w fun e w' => e = .returned (.bool (decide (ownQ 2 n x s m))) ∧ Below w.heap.size w w' := by
 have HN := Lib.hid hn; have HX := Lib.hid hx
 obtain ⟨hn0, hn1⟩ := hn; obtain ⟨hx0, hx1⟩ := hx
 go_enter Tryz.func86, Tryz.ntmps86
 go_wp2_with fail
 all_goals
  go_ret
  refine ⟨ret_b ?_, by first | exact below1 _ _ | exact below_step (below1 _ _) hb (by simp)⟩
  first | (exact (decide_eq_false (fun h => absurd ((own2 n x s m).1 h).1 (by assumption))).symm) | (exact (decide_eq_false (fun h => by have g := (own2 n x s m).1 h; have g2 := g.2; omega)).symm) | (exact (decide_eq_decide.2 ((own2 n x s m).trans ⟨fun h => by have g := h.2; omega, fun h => ⟨by assumption, by omega, by omega, by omega⟩⟩)).symm) | (exact (decide_eq_true ((own2 n x s m).2 ⟨by assumption, by omega, by omega, by omega⟩)).symm) | (exact Bool.eq_iff_iff.2 ⟨fun h => decide_eq_true ((own2 n x s m).2 ⟨by assumption, by omega, by omega, by simpa using h⟩), fun h => by have g := ((own2 n x s m).1 (of_decide_eq_true h)).2.2.2; simpa using g⟩)
set_option maxHeartbeats 4000000 in
theorem impl_own_3 (n x : Int) (s : ByteArray) (a : Option Addr) (m cap : Nat) (w : World) (hlc : m ≤ cap) (hcap : cap ≤ 9223372036854775807) (hn : I64 n) (hx : I64 x) :
  Calls Tryz.prog 86 #[.agg #[Value.int IntKind.i64 3, Value.int IntKind.i64 n, Value.int IntKind.i64 x, Value.string s, Value.slice a m cap]] w fun e w' => e = .returned (.bool (decide (ownQ 3 n x s m))) ∧ Below w.heap.size w w' := by
 have HN := Lib.hid hn; have HX := Lib.hid hx
 obtain ⟨hn0, hn1⟩ := hn; obtain ⟨hx0, hx1⟩ := hx
 obtain ⟨bb, hbb⟩ : ∃ bb, decide ((-1000000000000000 : Int) ≤ n ∧ n ≤ 1000000000000000) = bb := ⟨_, rfl⟩
 (have HBB := Lib.hid hbb; clear hbb)
 go_enter Tryz.func86, Tryz.ntmps86
 go_wp2_with (go_at_call 125; refine (impl_within _ _ _ _).mono ?_; rintro e w2 ⟨rfl, hb⟩; rw [HBB.out])
 all_goals
  go_ret
  refine ⟨ret_b ?_, by first | exact below1 _ _ | exact below_step (below1 _ _) hb (by simp)⟩
  first | (exact (decide_eq_false (fun h => absurd ((own3 n x s m).1 h).1 (by assumption))).symm) | (exact (decide_eq_false (fun h => by have g := (own3 n x s m).1 h; have g2 := g.2; omega)).symm) | (exact HBB.out.symm.trans (decide_eq_decide.2 ((own3 n x s m).trans ⟨fun h => h.2.2.2, fun h => ⟨by assumption, by omega, by omega, h⟩⟩)).symm)
set_option maxHeartbeats 4000000 in
theorem impl_own_4 (n x : Int) (s : ByteArray) (a : Option Addr) (m cap : Nat) (w : World) (hlc : m ≤ cap) (hcap : cap ≤ 9223372036854775807) (hn : I64 n) (hx : I64 x) :
  Calls Tryz.prog 86 #[.agg #[Value.int IntKind.i64 4, Value.int IntKind.i64 n, Value.int IntKind.i64 x, Value.string s, Value.slice a m cap]] w fun e w' => e = .returned (.bool (decide (ownQ 4 n x s m))) ∧ Below w.heap.size w w' := by
 have HN := Lib.hid hn; have HX := Lib.hid hx
 obtain ⟨hn0, hn1⟩ := hn; obtain ⟨hx0, hx1⟩ := hx
 go_enter Tryz.func86, Tryz.ntmps86
 go_wp2_with (go_at_call 144; refine (impl_FltOk _ _ _ HN.out HX.out).mono ?_; rintro e w2 ⟨rfl, hb⟩)
 all_goals
  go_ret
  refine ⟨ret_b ?_, by first | exact below1 _ _ | exact below_step (below1 _ _) hb (by simp)⟩
  first | (exact (decide_eq_false (fun h => absurd ((own4 n x s m).1 h).1 (by assumption))).symm) | (exact (decide_eq_false (fun h => by have g := (own4 n x s m).1 h; have g1 := g.2.1; omega)).symm) | (exact (decide_eq_decide.2 ((own4 n x s m).trans ⟨fun h => h.2.2, fun h => ⟨by assumption, by omega, h⟩⟩)).symm)
set_option maxHeartbeats 4000000 in
theorem impl_own_5 (n x : Int) (s : ByteArray) (a : Option Addr) (m cap : Nat) (w : World) (hlc : m ≤ cap) (hcap : cap ≤ 9223372036854775807) (hn : I64 n) (hx : I64 x) :
  Calls Tryz.prog 86 #[.agg #[Value.int IntKind.i64 5, Value.int IntKind.i64 n, Value.int IntKind.i64 x, Value.string s, Value.slice a m cap]] w fun e w' => e = .returned (.bool (decide (ownQ 5 n x s m))) ∧ Below w.heap.size w w' := by
 have HN := Lib.hid hn; have HX := Lib.hid hx
 obtain ⟨hn0, hn1⟩ := hn; obtain ⟨hx0, hx1⟩ := hx
 obtain ⟨bb, hbb⟩ : ∃ bb, decide ((0 : Int) ≤ n ∧ n ≤ 2) = bb := ⟨_, rfl⟩
 (have HBB := Lib.hid hbb; clear hbb)
 go_enter Tryz.func86, Tryz.ntmps86
 go_wp2_with (go_at_call 125; refine (impl_within _ _ _ _).mono ?_; rintro e w2 ⟨rfl, hb⟩; rw [HBB.out])
 all_goals
  go_ret
  refine ⟨ret_b ?_, by first | exact below1 _ _ | exact below_step (below1 _ _) hb (by simp)⟩
  first | (exact (decide_eq_false (fun h => absurd ((own5 n x s m).1 h).1 (by assumption))).symm) | (exact (decide_eq_false (fun h => by have g := (own5 n x s m).1 h; have g2 := g.2; omega)).symm) | (exact HBB.out.symm.trans (decide_eq_decide.2 ((own5 n x s m).trans ⟨fun h => h.2.2.2, fun h => ⟨by assumption, by omega, by omega, h⟩⟩)).symm)
set_option maxHeartbeats 4000000 in
theorem impl_own_6 (n x : Int) (s : ByteArray) (a : Option Addr) (m cap : Nat) (w : World) (hlc : m ≤ cap) (hcap : cap ≤ 9223372036854775807) (hn : I64 n) (hx : I64 x) (htab : Lib.TabBelow Tryz.prog w.heap.size w "internal/strconv.uint64pow10" .u64 Lib.pow10Tab) :
  Calls Tryz.prog 86 #[.agg #[Value.int IntKind.i64 6, Value.int IntKind.i64 n, Value.int IntKind.i64 x, Value.string s, Value.slice a m cap]] w fun e w' => e = .returned (.bool (decide (ownQ 6 n x s m))) ∧ Below w.heap.size w w' := by
 have HN := Lib.hid hn; have HX := Lib.hid hx
 obtain ⟨hn0, hn1⟩ := hn; obtain ⟨hx0, hx1⟩ := hx
 have HT := Lib.hid htab; clear htab
 go_enter Tryz.func86, Tryz.ntmps86
 go_wp2_with (go_at_call 145; refine (impl_DecOk _ _ _ HN.out HX.out (fun W hW => HT.out W ((below1 _ _).trans (hW.mono (by simp))))).mono ?_; rintro e w2 ⟨rfl, hb⟩)
 all_goals
  go_ret
  refine ⟨ret_b ?_, by first | exact below1 _ _ | exact below_step (below1 _ _) hb (by simp)⟩
  first | (exact (decide_eq_false (fun h => absurd ((own6 n x s m).1 h).1 (by assumption))).symm) | (exact (decide_eq_false (fun h => by have g := (own6 n x s m).1 h; have g1 := g.2.1; have g2 := g.2.2.1; omega)).symm) | (exact (decide_eq_decide.2 ((own6 n x s m).trans ⟨fun h => h.2.2.2, fun h => ⟨by assumption, by omega, by omega, h⟩⟩)).symm)
set_option maxHeartbeats 4000000 in
theorem impl_own_7 (n x : Int) (s : ByteArray) (a : Option Addr) (m cap : Nat) (w : World) (hlc : m ≤ cap) (hcap : cap ≤ 9223372036854775807) (hn : I64 n) (hx : I64 x) (hss : s.size ≤ 4611686018427387903) (hU : UtfBelow w.heap.size w) :
  Calls Tryz.prog 86 #[.agg #[Value.int IntKind.i64 7, Value.int IntKind.i64 n, Value.int IntKind.i64 x, Value.string s, Value.slice a m cap]] w fun e w' => e = .returned (.bool (decide (ownQ 7 n x s m))) ∧ Below w.heap.size w w' := by
 have HN := Lib.hid hn; have HX := Lib.hid hx
 obtain ⟨hn0, hn1⟩ := hn; obtain ⟨hx0, hx1⟩ := hx
 have HU := Lib.hid hU; clear hU
 go_enter Tryz.func86, Tryz.ntmps86
 go_wp2_with (go_at_call 143; refine (impl_TextOk _ _ hss (HU.out _ (below1 _ _))).mono ?_; rintro e w2 ⟨rfl, hb⟩)
 all_goals
  go_ret
  refine ⟨ret_b ?_, by first | exact below1 _ _ | exact below_step (below1 _ _) hb (by simp)⟩
  first | (exact (decide_eq_false (fun h => by have g := (own7 n x s m).1 h; have g1 := g.1; have g2 := g.2.1; have g3 := g.2.2.1; omega)).symm) | (exact (Bool.eq_iff_iff.2 ⟨fun h => decide_eq_true ((own7 n x s m).2 ⟨by omega, by omega, by omega, h⟩), fun h => ((own7 n x s m).1 (of_decide_eq_true h)).2.2.2⟩))
set_option maxHeartbeats 4000000 in
theorem impl_own_8 (n x : Int) (s : ByteArray) (a : Option Addr) (m cap : Nat) (w : World) (hlc : m ≤ cap) (hcap : cap ≤ 9223372036854775807) (hn : I64 n) (hx : I64 x) :
  Calls Tryz.prog 86 #[.agg #[Value.int IntKind.i64 8, Value.int IntKind.i64 n, Value.int IntKind.i64 x, Value.string s, Value.slice a m cap]] w fun e w' => e = .returned (.bool (decide (ownQ 8 n x s m))) ∧ Below w.heap.size w w' := by
 have HN := Lib.hid hn; have HX := Lib.hid hx
 obtain ⟨hn0, hn1⟩ := hn; obtain ⟨hx0, hx1⟩ := hx
 go_enter Tryz.func86, Tryz.ntmps86
 go_wp2_with fail
 all_goals
  go_ret
  refine ⟨ret_b ?_, by first | exact below1 _ _ | exact below_step (below1 _ _) hb (by simp)⟩
  first | (exact (decide_eq_false (fun h => by have g := (own8 n x s m).1 h; omega)).symm) | (exact (decide_eq_decide.2 ((own8 n x s m).trans ⟨fun h => by have g := h; omega, fun h => ⟨by omega, by omega, by omega⟩⟩)).symm) | (exact (decide_eq_true ((own8 n x s m).2 ⟨by omega, by omega, by omega⟩)).symm)
set_option maxHeartbeats 4000000 in
theorem impl_own_9 (n x : Int) (s : ByteArray) (a : Option Addr) (m cap : Nat) (w : World) (hlc : m ≤ cap) (hcap : cap ≤ 9223372036854775807) (hn : I64 n) (hx : I64 x) :
  Calls Tryz.prog 86 #[.agg #[Value.int IntKind.i64 9, Value.int IntKind.i64 n, Value.int IntKind.i64 x, Value.string s, Value.slice a m cap]] w fun e w' => e = .returned (.bool (decide (ownQ 9 n x s m))) ∧ Below w.heap.size w w' := by
 have HN := Lib.hid hn; have HX := Lib.hid hx
 obtain ⟨hn0, hn1⟩ := hn; obtain ⟨hx0, hx1⟩ := hx
 go_enter Tryz.func86, Tryz.ntmps86
 go_wp2_with fail
 all_goals
  go_ret
  refine ⟨ret_b ?_, by first | exact below1 _ _ | exact below_step (below1 _ _) hb (by simp)⟩
  first | (exact (decide_eq_false (fun h => absurd ((own9 n x s m).1 h).1 (by assumption))).symm) | (exact (decide_eq_false (fun h => by have g := (own9 n x s m).1 h; have g2 := g.2; omega)).symm) | (exact (decide_eq_decide.2 ((own9 n x s m).trans ⟨fun h => by have g := h.2; omega, fun h => ⟨by assumption, by omega, by omega⟩⟩)).symm) | (exact (decide_eq_true ((own9 n x s m).2 ⟨by assumption, by omega, by omega⟩)).symm)
set_option maxHeartbeats 4000000 in
theorem impl_own_10 (n x : Int) (s : ByteArray) (a : Option Addr) (m cap : Nat) (w : World) (hlc : m ≤ cap) (hcap : cap ≤ 9223372036854775807) (hn : I64 n) (hx : I64 x) :
  Calls Tryz.prog 86 #[.agg #[Value.int IntKind.i64 10, Value.int IntKind.i64 n, Value.int IntKind.i64 x, Value.string s, Value.slice a m cap]] w fun e w' => e = .returned (.bool (decide (ownQ 10 n x s m))) ∧ Below w.heap.size w w' := by
 have HN := Lib.hid hn; have HX := Lib.hid hx
 obtain ⟨hn0, hn1⟩ := hn; obtain ⟨hx0, hx1⟩ := hx
 go_enter Tryz.func86, Tryz.ntmps86
 go_wp2_with fail
 all_goals
  go_ret
  refine ⟨ret_b ?_, by first | exact below1 _ _ | exact below_step (below1 _ _) hb (by simp)⟩
  first | (exact (decide_eq_false (fun h => absurd ((own10 n x s m).1 h).1 (by assumption))).symm) | (exact (decide_eq_false (fun h => by have g := (own10 n x s m).1 h; have g2 := g.2; omega)).symm) | (exact (decide_eq_decide.2 ((own10 n x s m).trans ⟨fun h => by have g := h.2; omega, fun h => ⟨by assumption, by omega, by omega⟩⟩)).symm) | (exact (decide_eq_true ((own10 n x s m).2 ⟨by assumption, by omega, by omega⟩)).symm)
set_option maxHeartbeats 4000000 in
theorem impl_own_11 (n x : Int) (s : ByteArray) (a : Option Addr) (m cap : Nat) (w : World) (hlc : m ≤ cap) (hcap : cap ≤ 9223372036854775807) (hn : I64 n) (hx : I64 x) :
  Calls Tryz.prog 86 #[.agg #[Value.int IntKind.i64 11, Value.int IntKind.i64 n, Value.int IntKind.i64 x, Value.string s, Value.slice a m cap]] w fun e w' => e = .returned (.bool (decide (ownQ 11 n x s m))) ∧ Below w.heap.size w w' := by
 have HN := Lib.hid hn; have HX := Lib.hid hx
 obtain ⟨hn0, hn1⟩ := hn; obtain ⟨hx0, hx1⟩ := hx
 obtain ⟨bb, hbb⟩ : ∃ bb, decide ((0 : Int) ≤ n ∧ n ≤ 1000000000000000) = bb := ⟨_, rfl⟩
 rcases bb with _ | _
 all_goals (have HBB := Lib.hid hbb; clear hbb)
 all_goals go_enter Tryz.func86, Tryz.ntmps86
 all_goals go_wp2_with (go_at_call 125; refine (impl_within _ _ _ _).mono ?_; rintro e w2 ⟨rfl, hb⟩; rw [HBB.out]; have q2 := (Is.new w _ 26).below hb (by simp); obtain ⟨r0, r1, r2, r3, r4⟩ := q2.cells5; have hl2 : w.heap.size < w2.heap.size := Nat.lt_of_lt_of_le (by simp) hb.size)
 all_goals
  go_ret
  refine ⟨ret_b ?_, by first | exact below1 _ _ | exact below_step (below1 _ _) hb (by simp)⟩
  first | (exact (decide_eq_false (fun h => absurd ((own11 n x s m).1 h).1 (by assumption))).symm) | (exact (decide_eq_false (fun h => by have g := (own11 n x s m).1 h; have g2 := g.2; omega)).symm) | (exact (decide_eq_false (fun h => by have g := (own11 n x s m).1 h; have g2 := g.2.2.1; have g3 := of_decide_eq_false HBB.out; exact g3 g2)).symm) | (exact (decide_eq_decide.2 ((own11 n x s m).trans ⟨fun h => by have g := h.2.2.2; omega, fun h => ⟨by assumption, by omega, of_decide_eq_true HBB.out, by omega⟩⟩)).symm) | (exact (decide_eq_true ((own11 n x s m).2 ⟨by assumption, by omega, of_decide_eq_true HBB.out, by omega⟩)).symm)
set_option maxHeartbeats 4000000 in
theorem impl_own_o (k n x : Int) (s : ByteArray) (a : Option Addr) (m cap : Nat) (w : World) (hlc : m ≤ cap) (hcap : cap ≤ 9223372036854775807) (hn : I64 n) (hx : I64 x) (hk : k < 1 ∨ 11 < k) :
  Calls Tryz.prog 86 #[.agg #[Value.int IntKind.i64 k, Value.int IntKind.i64 n, Value.int IntKind.i64 x, Value.string s, Value.slice a m cap]] w fun e w' => e = .returned (.bool (decide (ownQ k n x s m))) ∧ Below w.heap.size w w' := by
 have HN := Lib.hid hn; have HX := Lib.hid hx
 obtain ⟨hn0, hn1⟩ := hn; obtain ⟨hx0, hx1⟩ := hx
 go_enter Tryz.func86, Tryz.ntmps86
 go_wp2_with fail
 all_goals
  go_ret
  refine ⟨ret_b ?_, by first | exact below1 _ _ | exact below_step (below1 _ _) hb (by simp)⟩
  exact (decide_eq_false (ownQ_out _ _ _ _ _ hk)).symm
theorem impl_ownOk (t : T) (a : Option Addr) (cap : Nat) (w : World) (hlc : t.l.length ≤ cap) (hcap : cap ≤ 9223372036854775807) (hwf : Wf t) (hss : t.s.size ≤ 4611686018427387903)
  (htab : Lib.TabBelow Tryz.prog w.heap.size w "internal/strconv.uint64pow10" .u64 Lib.pow10Tab) (hU : UtfBelow w.heap.size w) :
  Calls Tryz.prog 86 #[.agg (cV t a cap)] w fun e w' => e = .returned (.bool (decide (ownP t))) ∧ Below w.heap.size w w' := by
 obtain ⟨k, n, x, s, l⟩ := t
 obtain ⟨hk, hn, hx, _⟩ := hwf
 simp only [T.k, T.n, T.x, T.s, T.l, cV, ownP] at *
 have hcases : k = 1 ∨ k = 2 ∨ k = 3 ∨ k = 4 ∨ k = 5 ∨ k = 6 ∨ k = 7 ∨ k = 8 ∨ k = 9 ∨ k = 10 ∨ k = 11 ∨ (k < 1 ∨ 11 < k) := by omega
 obtain rfl | rfl | rfl | rfl | rfl | rfl | rfl | rfl | rfl | rfl | rfl | hko := hcases
 ·exact impl_own_1 n x s a l.length cap w hlc hcap hn hx
 ·exact impl_own_2 n x s a l.length cap w hlc hcap hn hx
 ·exact impl_own_3 n x s a l.length cap w hlc hcap hn hx
 ·exact impl_own_4 n x s a l.length cap w hlc hcap hn hx
 ·exact impl_own_5 n x s a l.length cap w hlc hcap hn hx
 ·exact impl_own_6 n x s a l.length cap w hlc hcap hn hx htab
 ·exact impl_own_7 n x s a l.length cap w hlc hcap hn hx hss hU
 ·exact impl_own_8 n x s a l.length cap w hlc hcap hn hx
 ·exact impl_own_9 n x s a l.length cap w hlc hcap hn hx
 ·exact impl_own_10 n x s a l.length cap w hlc hcap hn hx
 ·exact impl_own_11 n x s a l.length cap w hlc hcap hn hx
 ·exact impl_own_o k n x s a l.length cap w hlc hcap hn hx hko
mutual
def allB (p : T → Bool) : T → Bool | .mk k n x s l => p (.mk k n x s l) && allBs p l
def allBs (p : T → Bool) : List T → Bool | [] => true | t :: r => allB p t && allBs p r
end
theorem allBs_all (p : T → Bool) (l : List T) : allBs p l = l.all (allB p) := by
 induction l with
 | nil => rfl
 | cons t r ih => simp [allBs, ih]
theorem allB_eq (p : T → Bool) (t : T) : allB p t = (p t && t.l.all (allB p)) := by
 cases t; simp only [allB, allBs_all, T.l]
abbrev ownB (t : T) : Bool := decide (ownP t)
theorem sz_string (t : T) : t.s.size ≤ T.sz t := by cases t; simp only [T.s, T.sz]; omega
theorem sz_list (t : T) : T.szL t.l ≤ T.sz t := by cases t; simp only [T.l, T.sz]; omega
theorem sz_of (k n x : Int) (s : ByteArray) (l : List T) : T.sz (.mk k n x s l) = s.size + T.szL l := by simp only [T.sz]
theorem any_take_succ {α : Type} (p : α → Bool) (l : List α) (j : Nat) (h : j < l.length) : (l.take (j + 1)).any p = ((l.take j).any p || p l[j]) := by
 rw [take_snoc l j h, List.any_append]; simp
theorem any_true {α : Type} (p : α → Bool) (l : List α) (j : Nat) (h : j < l.length) (hp : p l[j] = true) : l.any p = true := by
 rw [List.any_eq_true]; exact ⟨l[j], List.getElem_mem h, hp⟩
theorem any_not_all {α : Type} (p : α → Bool) (l : List α) : (!l.any fun x => !p x) = l.all p := by
 rw [List.all_eq_not_any_not]
set_option maxHeartbeats 1000000 in
theorem idx_every_1 (p : T → Bool) (g : Nat) (l : List T) (a : Option Addr) (cap B : Nat) (w : World) (hr : R w B a cap l) (hB : B ≤ w.heap.size)
  (hp : ∀ t ∈ l, ∀ (a : Option Addr) (cap : Nat) (w' : World), Below w.heap.size w w' → R w' B a cap t.l → Wf t → Calls Tryz.prog 119 #[.agg (cV t a cap), .pointer (some ⟨g, 0, none⟩)] w' fun e v => e = .returned (.bool (p t)) ∧ Below w'.heap.size w' v) :
  Calls Tryz.prog 186 #[.slice a l.length cap, .func (.func 119) #[] #[.pointer (some ⟨g, 0, none⟩)]] w fun e w' => (∃ r : Int, e = .returned (.int .i64 r) ∧ decide (0 ≤ r) = l.any p) ∧ Below w.heap.size w w' := by
 obtain ⟨hl1, hl2⟩ := hr.len
 have HR := Lib.hid hr; clear hr
 have HP := Lib.hid hp; clear hp
 go_enter Tryz.func186, Tryz.ntmps186
 go_wp2_with fail
 go_loopw [8, 5] (fun i _ wr => ∃ (j : Nat), j ≤ l.length ∧ i = .int .i64 j ∧ Hid ((l.take j).any p = false) ∧ Below w.heap.size w wr) (fun i _ _ => l.length - (intOf i).toNat)
 case atStart => exact ⟨0, Nat.zero_le _, rfl, rfl, Below.refl _ _⟩
 case round =>
  obtain ⟨j, hj, rfl, HA, hb⟩ := hrel
  have hbs := hb.size
  by_cases hlt : j < l.length
  ·obtain ⟨b, o, a2, cap2, rfl, hbl, d0, d1, d2, d3, d4, hwf, hq⟩ := (HR.out.below hb hB).get j hlt
   have l1 : b < wr.heap.size := by omega
   have HW := Lib.hid hwf; clear hwf
   have HQ := Lib.hid hq; clear hq
   have HB := Lib.hid hb
   go_wp2_with fail
   refine (HP.out l[j] (List.getElem_mem hlt) a2 cap2 wr HB.out HQ.out HW.out).mono ?_
   rintro e w2 ⟨rfl, hb2⟩
   cases hv : p l[j] with
   | false =>
    have HE := Lib.hid (show (l.take (j + 1)).any p = false from by rw [any_take_succ p l j hlt, HA.out, hv]; rfl)
    clear hv
    go_wp2_with fail
    go_roundw
    case rel => exact ⟨j + 1, by omega, by go_num, HE.out, hb.trans (hb2.mono hbs)⟩
    case measure => simp [intOf]; omega
   | true =>
    have HE := Lib.hid (any_true p l j hlt hv)
    clear hv
    go_wp2_with fail
    go_ret
    exact ⟨⟨j, rfl, by rw [HE.out]; first | done | exact decide_eq_true (by omega)⟩, hb.trans (hb2.mono hbs)⟩
  ·have hjj : l.length = j := by omega
   have HE := Lib.hid (show l.any p = false from by rw [← HA.out, ← hjj, List.take_length]); clear hjj
   go_wp2_with fail
   go_ret
   exact ⟨⟨-1, rfl, by rw [HE.out]; rfl⟩, hb⟩
theorem has_every_1 (p : T → Bool) (g : Nat) (l : List T) (a : Option Addr) (cap B : Nat) (w : World) (hr : R w B a cap l) (hB : B ≤ w.heap.size)
  (hp : ∀ t ∈ l, ∀ (a : Option Addr) (cap : Nat) (w' : World), Below w.heap.size w w' → R w' B a cap t.l → Wf t → Calls Tryz.prog 119 #[.agg (cV t a cap), .pointer (some ⟨g, 0, none⟩)] w' fun e v => e = .returned (.bool (p t)) ∧ Below w'.heap.size w' v) :
  Calls Tryz.prog 118 #[.slice a l.length cap, .func (.func 119) #[] #[.pointer (some ⟨g, 0, none⟩)]] w fun e w' => e = .returned (.bool (l.any p)) ∧ Below w.heap.size w w' := by
 have cI := idx_every_1 p g l a cap B w hr hB hp
 generalize l.any p = r at *
 have CI := Lib.hid cI; clear cI hp hr
 go_enter Tryz.func118, Tryz.ntmps118
 go_wp2_with fail
 refine CI.out.mono ?_
 rintro e w2 ⟨⟨i, rfl, hi⟩, hb⟩
 cases r with
 | false =>
  have hi2 : ¬ 0 ≤ i := of_decide_eq_false hi
  clear hi
  go_wp2_with fail
  go_ret
  exact ⟨ret_b (by first | (simp; done) | (simp; omega)), hb⟩
 | true =>
  have hi2 : 0 ≤ i := of_decide_eq_true hi
  clear hi
  go_wp2_with fail
  go_ret
  exact ⟨ret_b (by first | (simp; done) | (simp; omega)), hb⟩
set_option maxHeartbeats 1000000 in
theorem idx_OnceEach_1 (p : T → Bool) (g : Nat) (l : List T) (a : Option Addr) (cap B : Nat) (w : World) (hr : R w B a cap l) (hB : B ≤ w.heap.size)
  (hp : ∀ t ∈ l, ∀ (a : Option Addr) (cap : Nat) (w' : World), Below w.heap.size w w' → R w' B a cap t.l → Wf t → Calls Tryz.prog 214 #[.agg (cV t a cap), .pointer (some ⟨g, 0, none⟩)] w' fun e v => e = .returned (.bool (p t)) ∧ Below w'.heap.size w' v) :
  Calls Tryz.prog 186 #[.slice a l.length cap, .func (.func 214) #[] #[.pointer (some ⟨g, 0, none⟩)]] w fun e w' => (∃ r : Int, e = .returned (.int .i64 r) ∧ decide (0 ≤ r) = l.any p) ∧ Below w.heap.size w w' := by
 obtain ⟨hl1, hl2⟩ := hr.len
 have HR := Lib.hid hr; clear hr
 have HP := Lib.hid hp; clear hp
 go_enter Tryz.func186, Tryz.ntmps186
 go_wp2_with fail
 go_loopw [8, 5] (fun i _ wr => ∃ (j : Nat), j ≤ l.length ∧ i = .int .i64 j ∧ Hid ((l.take j).any p = false) ∧ Below w.heap.size w wr) (fun i _ _ => l.length - (intOf i).toNat)
 case atStart => exact ⟨0, Nat.zero_le _, rfl, rfl, Below.refl _ _⟩
 case round =>
  obtain ⟨j, hj, rfl, HA, hb⟩ := hrel
  have hbs := hb.size
  by_cases hlt : j < l.length
  ·obtain ⟨b, o, a2, cap2, rfl, hbl, d0, d1, d2, d3, d4, hwf, hq⟩ := (HR.out.below hb hB).get j hlt
   have l1 : b < wr.heap.size := by omega
   have HW := Lib.hid hwf; clear hwf
   have HQ := Lib.hid hq; clear hq
   have HB := Lib.hid hb
   go_wp2_with fail
   refine (HP.out l[j] (List.getElem_mem hlt) a2 cap2 wr HB.out HQ.out HW.out).mono ?_
   rintro e w2 ⟨rfl, hb2⟩
   cases hv : p l[j] with
   | false =>
    have HE := Lib.hid (show (l.take (j + 1)).any p = false from by rw [any_take_succ p l j hlt, HA.out, hv]; rfl)
    clear hv
    go_wp2_with fail
    go_roundw
    case rel => exact ⟨j + 1, by omega, by go_num, HE.out, hb.trans (hb2.mono hbs)⟩
    case measure => simp [intOf]; omega
   | true =>
    have HE := Lib.hid (any_true p l j hlt hv)
    clear hv
    go_wp2_with fail
    go_ret
    exact ⟨⟨j, rfl, by rw [HE.out]; first | done | exact decide_eq_true (by omega)⟩, hb.trans (hb2.mono hbs)⟩
  ·have hjj : l.length = j := by omega
   have HE := Lib.hid (show l.any p = false from by rw [← HA.out, ← hjj, List.take_length]); clear hjj
   go_wp2_with fail
   go_ret
   exact ⟨⟨-1, rfl, by rw [HE.out]; rfl⟩, hb⟩
theorem has_OnceEach_1 (p : T → Bool) (g : Nat) (l : List T) (a : Option Addr) (cap B : Nat) (w : World) (hr : R w B a cap l) (hB : B ≤ w.heap.size)
  (hp : ∀ t ∈ l, ∀ (a : Option Addr) (cap : Nat) (w' : World), Below w.heap.size w w' → R w' B a cap t.l → Wf t → Calls Tryz.prog 214 #[.agg (cV t a cap), .pointer (some ⟨g, 0, none⟩)] w' fun e v => e = .returned (.bool (p t)) ∧ Below w'.heap.size w' v) :
  Calls Tryz.prog 118 #[.slice a l.length cap, .func (.func 214) #[] #[.pointer (some ⟨g, 0, none⟩)]] w fun e w' => e = .returned (.bool (l.any p)) ∧ Below w.heap.size w w' := by
 have cI := idx_OnceEach_1 p g l a cap B w hr hB hp
 generalize l.any p = r at *
 have CI := Lib.hid cI; clear cI hp hr
 go_enter Tryz.func118, Tryz.ntmps118
 go_wp2_with fail
 refine CI.out.mono ?_
 rintro e w2 ⟨⟨i, rfl, hi⟩, hb⟩
 cases r with
 | false =>
  have hi2 : ¬ 0 ≤ i := of_decide_eq_false hi
  clear hi
  go_wp2_with fail
  go_ret
  exact ⟨ret_b (by first | (simp; done) | (simp; omega)), hb⟩
 | true =>
  have hi2 : 0 ≤ i := of_decide_eq_true hi
  clear hi
  go_wp2_with fail
  go_ret
  exact ⟨ret_b (by first | (simp; done) | (simp; omega)), hb⟩
def Env (B : Nat) (w : World) : Prop := Lib.TabBelow Tryz.prog B w "internal/strconv.uint64pow10" .u64 Lib.pow10Tab ∧ UtfBelow B w
theorem Env.step {B : Nat} {w w' : World} (h : Env B w) (hb : Below B w w') : Env B w' := ⟨fun v hv => h.1 v (hb.trans hv), h.2.step hb⟩
theorem Env.here {B : Nat} {w : World} (h : Env B w) (hB : B ≤ w.heap.size) : Env w.heap.size w := ⟨fun v hv => h.1 v (hv.mono hB), fun v hv => h.2 v (hv.mono hB)⟩
theorem impl_ownOkR (t : T) (a : Option Addr) (cap B : Nat) (w : World) (hr : R w B a cap t.l) (hwf : Wf t) (hsz : T.sz t ≤ 1048576) (he : Env B w) (hB : B ≤ w.heap.size) :
  Calls Tryz.prog 86 #[.agg (cV t a cap)] w fun e v => e = .returned (.bool (ownB t)) ∧ Below w.heap.size w v :=
 impl_ownOk t a cap w hr.len.1 hr.len.2 hwf (by have := sz_string t; omega) (he.here hB).1 (he.here hB).2
set_option maxHeartbeats 2000000 in
theorem every_own (hp : ∀ t : T, ∀ (a : Option Addr) (cap B : Nat) (w : World), R w B a cap t.l → Wf t → T.sz t ≤ 1048576 → Env B w → B ≤ w.heap.size → Calls Tryz.prog 86 #[.agg (cV t a cap)] w fun e v => e = .returned (.bool (ownB t)) ∧ Below w.heap.size w v) :
  ∀ t : T, ∀ (a : Option Addr) (cap B : Nat) (w : World), R w B a cap t.l → Wf t → T.sz t ≤ 1048576 → Env B w → B ≤ w.heap.size →
  Calls Tryz.prog 66 #[.agg (cV t a cap), .func (.func 86) #[] #[]] w fun e w' => e = .returned (.bool (allB ownB t)) ∧ Below w.heap.size w w' := by
 have HP := Lib.hid hp; clear hp
 intro t
 induction t using T.ind with
 | h k n x s l ih =>
  intro a cap B w hr hwf hsz henv hB
  have IH := Lib.hid ih; clear ih
  have HPT := Lib.hid (fun W h1 h2 h3 h4 => HP.out (.mk k n x s l) a cap B W h1 hwf hsz h3 h4 : ∀ W, R W B a cap l → True → Env B W → B ≤ W.heap.size → _)
  have HALL := Lib.hid (allB_eq ownB (.mk k n x s l))
  simp only [cV, T.k, T.n, T.x, T.s, T.l] at hr HPT ⊢
  rw [sz_of] at hsz
  obtain ⟨hlc, hcap⟩ := hr.len
  have HR := Lib.hid hr; clear hr
  have HE := Lib.hid henv; clear henv hwf
  have hmf : ∀ (fn : Fn) (first cap : Array Value) (w : World), (Instr.makeFunc fn first cap).run Tryz.prog w = .ok (.func fn first cap) w := fun _ _ _ _ => rfl
  go_enter Tryz.func66, Tryz.ntmps66
  go_wp2_with fail
  generalize hW : (w.alloc (Obj.cells #[Value.int IntKind.i64 k, Value.int IntKind.i64 n, Value.int IntKind.i64 x, Value.string s, Value.slice a l.length cap] 26)).alloc (Obj.cells #[.func (.func 86) #[] #[]] 33) = W0
  have q1 : Is W0 w.heap.size 26 #[Value.int IntKind.i64 k, Value.int IntKind.i64 n, Value.int IntKind.i64 x, Value.string s, Value.slice a l.length cap] := by subst hW; exact (Is.new _ _ _).alloc _
  have q2 : Is W0 (w.heap.size + 1) 33 #[.func (.func 86) #[] #[]] := by subst hW; exact Is.new2 _ _ _ _
  have H0 := Lib.hid (show Below w.heap.size w W0 from by subst hW; exact below2 _ _ _)
  have hs0 : W0.heap.size = w.heap.size + 2 := by subst hW; simp
  clear hW
  refine (HPT.out W0 (HR.out.below H0.out hB) trivial (HE.out.step (H0.out.mono hB)) (by omega)).mono ?_
  rintro e w2 ⟨rfl, hb2⟩
  have hs2 := hb2.size
  have p1 := q1.below hb2 (by omega)
  have p2 := q2.below hb2 (by omega)
  obtain ⟨r0, r1, r2, r3, r4⟩ := p1.cells5
  have l1 : w.heap.size < w2.heap.size := by omega
  have HB2 := Lib.hid (H0.out.trans (hb2.mono (by omega)))
  clear HPT
  cases hv : ownB (.mk k n x s l) with
  | false =>
   have HD := Lib.hid (show allB ownB (.mk k n x s l) = false from by rw [HALL.out, hv]; rfl)
   clear hv HALL
   go_wp2_with fail
   go_ret
   exact ⟨ret_b (by rw [HD.out]), HB2.out⟩
  | true =>
   have HD := Lib.hid (show allB ownB (.mk k n x s l) = !(l.any fun x => !allB ownB x) from by rw [HALL.out, hv]; simp only [T.l, Bool.true_and]; exact (any_not_all _ _).symm)
   clear hv HALL
   have H1 : ∀ t ∈ l, ∀ (a : Option Addr) (cap : Nat) (w' : World), Below w2.heap.size w2 w' → R w' B a cap t.l → Wf t → Calls Tryz.prog 119 #[.agg (cV t a cap), .pointer (some ⟨w.heap.size + 1, 0, none⟩)] w' fun e v => e = .returned (.bool (!allB ownB t)) ∧ Below w'.heap.size w' v := by
    intro t ht a3 cap3 w' hb3 hr3 hwf3
    obtain ⟨i, hi, rfl⟩ := List.mem_iff_getElem.1 ht
    have hszi := T.sz_get l i hi
    have hs3 := hb3.size
    have t2 := p2.below hb3 (by omega)
    have c0 := t2.cell 0 rfl
    simp only [List.getElem_toArray, List.getElem_cons_zero] at c0
    have l2 : w.heap.size + 1 < w'.heap.size := by omega
    have HWF := Lib.hid hwf3; clear hwf3
    have HR3 := Lib.hid hr3; clear hr3
    have HB3 := Lib.hid (HB2.out.trans (hb3.mono (by omega)))
    clear hb3 p1 q1 q2 r0 r1 r2 r3 r4 ht
    go_enter Tryz.func119, Tryz.ntmps119
    go_wp2_with fail
    refine (IH.out l[i] (List.getElem_mem hi) a3 cap3 B _ (HR3.out.below (below1 _ _) (by omega)) HWF.out (by omega) (HE.out.step ((HB3.out.mono hB).trans ((below1 _ _).mono (by omega)))) (by simp; omega)).mono ?_
    rintro e w5 ⟨rfl, hb5⟩
    go_wp2_with fail
    go_ret
    exact ⟨rfl, below_step (below1 _ _) hb5 (by simp)⟩
   have cC := has_every_1 (fun x => !allB ownB x) (w.heap.size + 1) l a cap B w2 (HR.out.below HB2.out hB) (by omega) H1
   have CC := Lib.hid cC; clear cC H1
   generalize (l.any fun x => !allB ownB x) = r at *
   go_wp2_with fail
   refine CC.out.mono ?_
   rintro e w6 ⟨rfl, hb6⟩
   go_wp2_with fail
   go_ret
   exact ⟨ret_b (by rw [HD.out]), HB2.out.trans (hb6.mono (by omega))⟩
theorem impl_ValOk (t : T) (a : Option Addr) (cap B : Nat) (w : World) (hr : R w B a cap t.l) (hwf : Wf t) (hsz : T.sz t ≤ 1048576) (he : Env B w) (hB : B ≤ w.heap.size) :
  Calls Tryz.prog 30 #[.agg (cV t a cap)] w fun e v => e = .returned (.bool (allB ownB t)) ∧ Below w.heap.size w v := by
 have HC := Lib.hid (every_own (fun t a cap B w h1 h2 h3 h4 h5 => impl_ownOkR t a cap B w h1 h2 h3 h4 h5) t a cap B (w.alloc (.cells (cV t a cap) 26)) (hr.below (below1 _ _) hB) hwf hsz (he.step ((below1 _ _).mono hB)) (by simp; omega))
 go_enter Tryz.func30, Tryz.ntmps30
 go_wp2_with fail
 refine HC.out.mono ?_
 rintro e w2 ⟨rfl, hb2⟩
 go_wp2_with fail
 go_ret
 exact ⟨rfl, below_step (below1 _ _) hb2 (by simp)⟩
end Go.Proofs.YtggdenkmohnijaaGreatDoor
