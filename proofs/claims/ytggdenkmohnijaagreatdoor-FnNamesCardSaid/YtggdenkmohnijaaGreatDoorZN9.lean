/- Texts of this proof, merged: OwnT. No condition beyond what each theorem states. -/
import Derived.Test.YtggdenkmohnijaaGreatDoorZN8
set_option linter.unusedSimpArgs false
set_option linter.unnecessarySimpa false
namespace Go.Proofs.YtggdenkmohnijaaGreatDoor
open Go.ChangeShapes Go.WideShapes Go.ChangeAt Go.RowKit Go.Joins
set_option linter.unusedVariables false
set_option maxRecDepth 100000
def ownQ (k n x : Int) (s : ByteArray) (m : Nat) : Prop :=
  (k = 7 ∨ k = 8 ∨ s.toList = []) ∧ (k = 4 ∨ k = 6 ∨ x = 0) ∧ (9 ≤ k ∨ m = 0) ∧
  ((k = 1 ∧ n = 0) ∨ (k = 2 ∧ (n = 0 ∨ n = 1)) ∨ (k = 3 ∧ -1000000000000000 ≤ n ∧ n ≤ 1000000000000000) ∨ (k = 4 ∧ fltOk n x) ∨ (k = 5 ∧ 0 ≤ n ∧ n ≤ 2) ∨ (k = 6 ∧ x < 0 ∧ decOk n x) ∨
   (k = 7 ∧ n = 0 ∧ Lib.validD s.data.toList = true) ∨ (k = 8 ∧ n = 0) ∨ (k = 9 ∧ n = 0) ∨ (k = 10 ∧ n = 0 ∧ m % 2 = 0) ∨ (k = 11 ∧ (0 ≤ n ∧ n ≤ 1000000000000000) ∧ m = 1))
instance (k n x : Int) (s : ByteArray) (m : Nat) : Decidable (ownQ k n x s m) := by unfold ownQ; exact inferInstance
abbrev ownP (t : T) : Prop := ownQ t.k t.n t.x t.s t.l.length
theorem ownQ_out (k n x : Int) (s : ByteArray) (m : Nat) (h : k < 1 ∨ 11 < k) : ¬ ownQ k n x s m := by unfold ownQ; omega
theorem own1 (n x : Int) (s : ByteArray) (m : Nat) : ownQ 1 n x s m ↔ s.toList = [] ∧ x = 0 ∧ m = 0 ∧ n = 0 := by
  unfold ownQ
  by_cases hs : s.toList = []
  all_goals simp only [hs, true_and, false_and, and_true, or_false, or_true, iff_self, false_iff, not_false_eq_true]
  all_goals first | omega | (simp; done) | (simp; omega)
theorem own2 (n x : Int) (s : ByteArray) (m : Nat) : ownQ 2 n x s m ↔ s.toList = [] ∧ x = 0 ∧ m = 0 ∧ (n = 0 ∨ n = 1) := by
  unfold ownQ
  by_cases hs : s.toList = []
  all_goals simp only [hs, true_and, false_and, and_true, or_false, or_true, iff_self, false_iff, not_false_eq_true]
  all_goals first | omega | (simp; done) | (simp; omega)
theorem own3 (n x : Int) (s : ByteArray) (m : Nat) : ownQ 3 n x s m ↔ s.toList = [] ∧ x = 0 ∧ m = 0 ∧ (-1000000000000000 ≤ n ∧ n ≤ 1000000000000000) := by
  unfold ownQ
  by_cases hs : s.toList = []
  all_goals simp only [hs, true_and, false_and, and_true, or_false, or_true, iff_self, false_iff, not_false_eq_true]
  all_goals first | omega | (simp; done) | (simp; omega)
theorem own4 (n x : Int) (s : ByteArray) (m : Nat) : ownQ 4 n x s m ↔ s.toList = [] ∧ m = 0 ∧ fltOk n x := by
  unfold ownQ
  by_cases hs : s.toList = []
  all_goals simp only [hs, true_and, false_and, and_true, or_false, or_true, iff_self, false_iff, not_false_eq_true]
  all_goals by_cases hf : fltOk n x
  all_goals simp only [hf, true_and, false_and, and_true, and_false, or_false, or_true]
  all_goals first | omega | (simp; done) | (simp; omega)
theorem own5 (n x : Int) (s : ByteArray) (m : Nat) : ownQ 5 n x s m ↔ s.toList = [] ∧ x = 0 ∧ m = 0 ∧ (0 ≤ n ∧ n ≤ 2) := by
  unfold ownQ
  by_cases hs : s.toList = []
  all_goals simp only [hs, true_and, false_and, and_true, or_false, or_true, iff_self, false_iff, not_false_eq_true]
  all_goals first | omega | (simp; done) | (simp; omega)
theorem own6 (n x : Int) (s : ByteArray) (m : Nat) : ownQ 6 n x s m ↔ s.toList = [] ∧ m = 0 ∧ (x < 0 ∧ decOk n x) := by
  unfold ownQ
  by_cases hs : s.toList = []
  all_goals simp only [hs, true_and, false_and, and_true, or_false, or_true, iff_self, false_iff, not_false_eq_true]
  all_goals by_cases hf : decOk n x
  all_goals simp only [hf, true_and, false_and, and_true, and_false, or_false, or_true]
  all_goals first | omega | (simp; done) | (simp; omega)
theorem own7 (n x : Int) (s : ByteArray) (m : Nat) : ownQ 7 n x s m ↔ x = 0 ∧ m = 0 ∧ (n = 0 ∧ Lib.validD s.data.toList = true) := by
  unfold ownQ
  by_cases hf : Lib.validD s.data.toList = true
  all_goals simp only [hf, true_and, false_and, and_true, and_false, or_false, or_true]
  all_goals first | omega | (simp; done) | (simp; omega)
theorem own8 (n x : Int) (s : ByteArray) (m : Nat) : ownQ 8 n x s m ↔ x = 0 ∧ m = 0 ∧ n = 0 := by
  unfold ownQ
  all_goals first | omega | (simp; done) | (simp; omega)
theorem own9 (n x : Int) (s : ByteArray) (m : Nat) : ownQ 9 n x s m ↔ s.toList = [] ∧ x = 0 ∧ n = 0 := by
  unfold ownQ
  by_cases hs : s.toList = []
  all_goals simp only [hs, true_and, false_and, and_true, or_false, or_true, iff_self, false_iff, not_false_eq_true]
  all_goals first | omega | (simp; done) | (simp; omega)
theorem own10 (n x : Int) (s : ByteArray) (m : Nat) : ownQ 10 n x s m ↔ s.toList = [] ∧ x = 0 ∧ (n = 0 ∧ m % 2 = 0) := by
  unfold ownQ
  by_cases hs : s.toList = []
  all_goals simp only [hs, true_and, false_and, and_true, or_false, or_true, iff_self, false_iff, not_false_eq_true]
  all_goals first | omega | (simp; done) | (simp; omega)
theorem own11 (n x : Int) (s : ByteArray) (m : Nat) : ownQ 11 n x s m ↔ s.toList = [] ∧ x = 0 ∧ ((0 ≤ n ∧ n ≤ 1000000000000000) ∧ m = 1) := by
  unfold ownQ
  by_cases hs : s.toList = []
  all_goals simp only [hs, true_and, false_and, and_true, or_false, or_true, iff_self, false_iff, not_false_eq_true]
  all_goals first | omega | (simp; done) | (simp; omega)
set_option maxHeartbeats 4000000 in
theorem impl_own_1 (n x : Int) (s : ByteArray) (a : Option Addr) (m cap : Nat) (w : World) (hlc : m ≤ cap) (hcap : cap ≤ 9223372036854775807) (hn : I64 n) (hx : I64 x) :
    Calls Tryz.prog 86 #[.agg #[Value.int IntKind.i64 1, Value.int IntKind.i64 n, Value.int IntKind.i64 x, Value.string s, Value.slice a m cap]] w fun e w' => e = .returned (.bool (decide (ownQ 1 n x s m))) ∧ Below w.heap.size w w' := by
  have HN := Lib.hid hn; have HX := Lib.hid hx
  obtain ⟨hn0, hn1⟩ := hn; obtain ⟨hx0, hx1⟩ := hx
  go_enter Tryz.func86, Tryz.ntmps86
  go_wp2_with fail
  all_goals
    go_ret
    refine ⟨ret_b ?_, by first | exact below1 _ _ | exact below_step (below1 _ _) hb (by simp)⟩
    first | (exact (decide_eq_false (fun h => absurd ((own1 n x s m).1 h).1 (by assumption))).symm) | (exact (decide_eq_false (fun h => by have g := (own1 n x s m).1 h; have g2 := g.2; omega)).symm) | (exact (decide_eq_decide.2 ((own1 n x s m).trans ⟨fun h => by have g := h.2; omega, fun h => ⟨by assumption, by omega, by omega, by omega⟩⟩)).symm) | (exact (decide_eq_true ((own1 n x s m).2 ⟨by assumption, by omega, by omega, by omega⟩)).symm)
set_option maxHeartbeats 4000000 in
theorem impl_own_2 (n x : Int) (s : ByteArray) (a : Option Addr) (m cap : Nat) (w : World) (hlc : m ≤ cap) (hcap : cap ≤ 9223372036854775807) (hn : I64 n) (hx : I64 x) :
    Calls Tryz.prog 86 #[.agg #[Value.int IntKind.i64 2, Value.int IntKind.i64 n, Value.int IntKind.i64 x, Value.string s, Value.slice a m cap]] w fun e w' => e = .returned (.bool (decide (ownQ 2 n x s m))) ∧ Below w.heap.size w w' := by
  have HN := Lib.hid hn; have HX := Lib.hid hx
  obtain ⟨hn0, hn1⟩ := hn; obtain ⟨hx0, hx1⟩ := hx
  go_enter Tryz.func86, Tryz.ntmps86
  go_wp2_with fail
  all_goals
    go_ret
    refine ⟨ret_b ?_, by first | exact below1 _ _ | exact below_step (below1 _ _) hb (by simp)⟩
    first | (exact (decide_eq_false (fun h => absurd ((own2 n x s m).1 h).1 (by assumption))).symm) | (exact (decide_eq_false (fun h => by have g := (own2 n x s m).1 h; have g2 := g.2; omega)).symm) | (exact (decide_eq_decide.2 ((own2 n x s m).trans ⟨fun h => by have g := h.2; omega, fun h => ⟨by assumption, by omega, by omega, by omega⟩⟩)).symm) | (exact (decide_eq_true ((own2 n x s m).2 ⟨by assumption, by omega, by omega, by omega⟩)).symm) | (exact Bool.eq_iff_iff.2 ⟨fun h => decide_eq_true ((own2 n x s m).2 ⟨by assumption, by omega, by omega, by simpa using h⟩), fun h => by have g := ((own2 n x s m).1 (of_decide_eq_true h)).2.2.2; simpa using g⟩)
set_option maxHeartbeats 4000000 in
theorem impl_own_3 (n x : Int) (s : ByteArray) (a : Option Addr) (m cap : Nat) (w : World) (hlc : m ≤ cap) (hcap : cap ≤ 9223372036854775807) (hn : I64 n) (hx : I64 x) :
    Calls Tryz.prog 86 #[.agg #[Value.int IntKind.i64 3, Value.int IntKind.i64 n, Value.int IntKind.i64 x, Value.string s, Value.slice a m cap]] w fun e w' => e = .returned (.bool (decide (ownQ 3 n x s m))) ∧ Below w.heap.size w w' := by
  have HN := Lib.hid hn; have HX := Lib.hid hx
  obtain ⟨hn0, hn1⟩ := hn; obtain ⟨hx0, hx1⟩ := hx
  obtain ⟨bb, hbb⟩ : ∃ bb, decide ((-1000000000000000 : Int) ≤ n ∧ n ≤ 1000000000000000) = bb := ⟨_, rfl⟩
  (have HBB := Lib.hid hbb; clear hbb)
  go_enter Tryz.func86, Tryz.ntmps86
  go_wp2_with (go_at_call 125; refine (impl_within _ _ _ _).mono ?_; rintro e w2 ⟨rfl, hb⟩; rw [HBB.out])
  all_goals
    go_ret
    refine ⟨ret_b ?_, by first | exact below1 _ _ | exact below_step (below1 _ _) hb (by simp)⟩
    first | (exact (decide_eq_false (fun h => absurd ((own3 n x s m).1 h).1 (by assumption))).symm) | (exact (decide_eq_false (fun h => by have g := (own3 n x s m).1 h; have g2 := g.2; omega)).symm) | (exact HBB.out.symm.trans (decide_eq_decide.2 ((own3 n x s m).trans ⟨fun h => h.2.2.2, fun h => ⟨by assumption, by omega, by omega, h⟩⟩)).symm)
set_option maxHeartbeats 4000000 in
theorem impl_own_4 (n x : Int) (s : ByteArray) (a : Option Addr) (m cap : Nat) (w : World) (hlc : m ≤ cap) (hcap : cap ≤ 9223372036854775807) (hn : I64 n) (hx : I64 x) :
    Calls Tryz.prog 86 #[.agg #[Value.int IntKind.i64 4, Value.int IntKind.i64 n, Value.int IntKind.i64 x, Value.string s, Value.slice a m cap]] w fun e w' => e = .returned (.bool (decide (ownQ 4 n x s m))) ∧ Below w.heap.size w w' := by
  have HN := Lib.hid hn; have HX := Lib.hid hx
  obtain ⟨hn0, hn1⟩ := hn; obtain ⟨hx0, hx1⟩ := hx
  go_enter Tryz.func86, Tryz.ntmps86
  go_wp2_with (go_at_call 144; refine (impl_FltOk _ _ _ HN.out HX.out).mono ?_; rintro e w2 ⟨rfl, hb⟩)
  all_goals
    go_ret
    refine ⟨ret_b ?_, by first | exact below1 _ _ | exact below_step (below1 _ _) hb (by simp)⟩
    first | (exact (decide_eq_false (fun h => absurd ((own4 n x s m).1 h).1 (by assumption))).symm) | (exact (decide_eq_false (fun h => by have g := (own4 n x s m).1 h; have g1 := g.2.1; omega)).symm) | (exact (decide_eq_decide.2 ((own4 n x s m).trans ⟨fun h => h.2.2, fun h => ⟨by assumption, by omega, h⟩⟩)).symm)
set_option maxHeartbeats 4000000 in
theorem impl_own_5 (n x : Int) (s : ByteArray) (a : Option Addr) (m cap : Nat) (w : World) (hlc : m ≤ cap) (hcap : cap ≤ 9223372036854775807) (hn : I64 n) (hx : I64 x) :
    Calls Tryz.prog 86 #[.agg #[Value.int IntKind.i64 5, Value.int IntKind.i64 n, Value.int IntKind.i64 x, Value.string s, Value.slice a m cap]] w fun e w' => e = .returned (.bool (decide (ownQ 5 n x s m))) ∧ Below w.heap.size w w' := by
  have HN := Lib.hid hn; have HX := Lib.hid hx
  obtain ⟨hn0, hn1⟩ := hn; obtain ⟨hx0, hx1⟩ := hx
  obtain ⟨bb, hbb⟩ : ∃ bb, decide ((0 : Int) ≤ n ∧ n ≤ 2) = bb := ⟨_, rfl⟩
  (have HBB := Lib.hid hbb; clear hbb)
  go_enter Tryz.func86, Tryz.ntmps86
  go_wp2_with (go_at_call 125; refine (impl_within _ _ _ _).mono ?_; rintro e w2 ⟨rfl, hb⟩; rw [HBB.out])
  all_goals
    go_ret
    refine ⟨ret_b ?_, by first | exact below1 _ _ | exact below_step (below1 _ _) hb (by simp)⟩
    first | (exact (decide_eq_false (fun h => absurd ((own5 n x s m).1 h).1 (by assumption))).symm) | (exact (decide_eq_false (fun h => by have g := (own5 n x s m).1 h; have g2 := g.2; omega)).symm) | (exact HBB.out.symm.trans (decide_eq_decide.2 ((own5 n x s m).trans ⟨fun h => h.2.2.2, fun h => ⟨by assumption, by omega, by omega, h⟩⟩)).symm)
set_option maxHeartbeats 4000000 in
theorem impl_own_6 (n x : Int) (s : ByteArray) (a : Option Addr) (m cap : Nat) (w : World) (hlc : m ≤ cap) (hcap : cap ≤ 9223372036854775807) (hn : I64 n) (hx : I64 x) (htab : Lib.TabBelow Tryz.prog w.heap.size w "internal/strconv.uint64pow10" .u64 Lib.pow10Tab) :
    Calls Tryz.prog 86 #[.agg #[Value.int IntKind.i64 6, Value.int IntKind.i64 n, Value.int IntKind.i64 x, Value.string s, Value.slice a m cap]] w fun e w' => e = .returned (.bool (decide (ownQ 6 n x s m))) ∧ Below w.heap.size w w' := by
  have HN := Lib.hid hn; have HX := Lib.hid hx
  obtain ⟨hn0, hn1⟩ := hn; obtain ⟨hx0, hx1⟩ := hx
  have HT := Lib.hid htab; clear htab
  go_enter Tryz.func86, Tryz.ntmps86
  go_wp2_with (go_at_call 145; refine (impl_DecOk _ _ _ HN.out HX.out (fun W hW => HT.out W ((below1 _ _).trans (hW.mono (by simp))))).mono ?_; rintro e w2 ⟨rfl, hb⟩)
  all_goals
    go_ret
    refine ⟨ret_b ?_, by first | exact below1 _ _ | exact below_step (below1 _ _) hb (by simp)⟩
    first | (exact (decide_eq_false (fun h => absurd ((own6 n x s m).1 h).1 (by assumption))).symm) | (exact (decide_eq_false (fun h => by have g := (own6 n x s m).1 h; have g1 := g.2.1; have g2 := g.2.2.1; omega)).symm) | (exact (decide_eq_decide.2 ((own6 n x s m).trans ⟨fun h => h.2.2.2, fun h => ⟨by assumption, by omega, by omega, h⟩⟩)).symm)
set_option maxHeartbeats 4000000 in
theorem impl_own_7 (n x : Int) (s : ByteArray) (a : Option Addr) (m cap : Nat) (w : World) (hlc : m ≤ cap) (hcap : cap ≤ 9223372036854775807) (hn : I64 n) (hx : I64 x) (hss : s.size ≤ 4611686018427387903) (hU : UtfBelow w.heap.size w) :
    Calls Tryz.prog 86 #[.agg #[Value.int IntKind.i64 7, Value.int IntKind.i64 n, Value.int IntKind.i64 x, Value.string s, Value.slice a m cap]] w fun e w' => e = .returned (.bool (decide (ownQ 7 n x s m))) ∧ Below w.heap.size w w' := by
  have HN := Lib.hid hn; have HX := Lib.hid hx
  obtain ⟨hn0, hn1⟩ := hn; obtain ⟨hx0, hx1⟩ := hx
  have HU := Lib.hid hU; clear hU
  go_enter Tryz.func86, Tryz.ntmps86
  go_wp2_with (go_at_call 143; refine (impl_TextOk _ _ hss (HU.out _ (below1 _ _))).mono ?_; rintro e w2 ⟨rfl, hb⟩)
  all_goals
    go_ret
    refine ⟨ret_b ?_, by first | exact below1 _ _ | exact below_step (below1 _ _) hb (by simp)⟩
    first | (exact (decide_eq_false (fun h => by have g := (own7 n x s m).1 h; have g1 := g.1; have g2 := g.2.1; have g3 := g.2.2.1; omega)).symm) | (exact (Bool.eq_iff_iff.2 ⟨fun h => decide_eq_true ((own7 n x s m).2 ⟨by omega, by omega, by omega, h⟩), fun h => ((own7 n x s m).1 (of_decide_eq_true h)).2.2.2⟩))
set_option maxHeartbeats 4000000 in
theorem impl_own_8 (n x : Int) (s : ByteArray) (a : Option Addr) (m cap : Nat) (w : World) (hlc : m ≤ cap) (hcap : cap ≤ 9223372036854775807) (hn : I64 n) (hx : I64 x) :
    Calls Tryz.prog 86 #[.agg #[Value.int IntKind.i64 8, Value.int IntKind.i64 n, Value.int IntKind.i64 x, Value.string s, Value.slice a m cap]] w fun e w' => e = .returned (.bool (decide (ownQ 8 n x s m))) ∧ Below w.heap.size w w' := by
  have HN := Lib.hid hn; have HX := Lib.hid hx
  obtain ⟨hn0, hn1⟩ := hn; obtain ⟨hx0, hx1⟩ := hx
  go_enter Tryz.func86, Tryz.ntmps86
  go_wp2_with fail
  all_goals
    go_ret
    refine ⟨ret_b ?_, by first | exact below1 _ _ | exact below_step (below1 _ _) hb (by simp)⟩
    first | (exact (decide_eq_false (fun h => by have g := (own8 n x s m).1 h; omega)).symm) | (exact (decide_eq_decide.2 ((own8 n x s m).trans ⟨fun h => by have g := h; omega, fun h => ⟨by omega, by omega, by omega⟩⟩)).symm) | (exact (decide_eq_true ((own8 n x s m).2 ⟨by omega, by omega, by omega⟩)).symm)
set_option maxHeartbeats 4000000 in
theorem impl_own_9 (n x : Int) (s : ByteArray) (a : Option Addr) (m cap : Nat) (w : World) (hlc : m ≤ cap) (hcap : cap ≤ 9223372036854775807) (hn : I64 n) (hx : I64 x) :
    Calls Tryz.prog 86 #[.agg #[Value.int IntKind.i64 9, Value.int IntKind.i64 n, Value.int IntKind.i64 x, Value.string s, Value.slice a m cap]] w fun e w' => e = .returned (.bool (decide (ownQ 9 n x s m))) ∧ Below w.heap.size w w' := by
  have HN := Lib.hid hn; have HX := Lib.hid hx
  obtain ⟨hn0, hn1⟩ := hn; obtain ⟨hx0, hx1⟩ := hx
  go_enter Tryz.func86, Tryz.ntmps86
  go_wp2_with fail
  all_goals
    go_ret
    refine ⟨ret_b ?_, by first | exact below1 _ _ | exact below_step (below1 _ _) hb (by simp)⟩
    first | (exact (decide_eq_false (fun h => absurd ((own9 n x s m).1 h).1 (by assumption))).symm) | (exact (decide_eq_false (fun h => by have g := (own9 n x s m).1 h; have g2 := g.2; omega)).symm) | (exact (decide_eq_decide.2 ((own9 n x s m).trans ⟨fun h => by have g := h.2; omega, fun h => ⟨by assumption, by omega, by omega⟩⟩)).symm) | (exact (decide_eq_true ((own9 n x s m).2 ⟨by assumption, by omega, by omega⟩)).symm)
set_option maxHeartbeats 4000000 in
theorem impl_own_10 (n x : Int) (s : ByteArray) (a : Option Addr) (m cap : Nat) (w : World) (hlc : m ≤ cap) (hcap : cap ≤ 9223372036854775807) (hn : I64 n) (hx : I64 x) :
    Calls Tryz.prog 86 #[.agg #[Value.int IntKind.i64 10, Value.int IntKind.i64 n, Value.int IntKind.i64 x, Value.string s, Value.slice a m cap]] w fun e w' => e = .returned (.bool (decide (ownQ 10 n x s m))) ∧ Below w.heap.size w w' := by
  have HN := Lib.hid hn; have HX := Lib.hid hx
  obtain ⟨hn0, hn1⟩ := hn; obtain ⟨hx0, hx1⟩ := hx
  go_enter Tryz.func86, Tryz.ntmps86
  go_wp2_with fail
  all_goals
    go_ret
    refine ⟨ret_b ?_, by first | exact below1 _ _ | exact below_step (below1 _ _) hb (by simp)⟩
    first | (exact (decide_eq_false (fun h => absurd ((own10 n x s m).1 h).1 (by assumption))).symm) | (exact (decide_eq_false (fun h => by have g := (own10 n x s m).1 h; have g2 := g.2; omega)).symm) | (exact (decide_eq_decide.2 ((own10 n x s m).trans ⟨fun h => by have g := h.2; omega, fun h => ⟨by assumption, by omega, by omega⟩⟩)).symm) | (exact (decide_eq_true ((own10 n x s m).2 ⟨by assumption, by omega, by omega⟩)).symm)
set_option maxHeartbeats 4000000 in
theorem impl_own_11 (n x : Int) (s : ByteArray) (a : Option Addr) (m cap : Nat) (w : World) (hlc : m ≤ cap) (hcap : cap ≤ 9223372036854775807) (hn : I64 n) (hx : I64 x) :
    Calls Tryz.prog 86 #[.agg #[Value.int IntKind.i64 11, Value.int IntKind.i64 n, Value.int IntKind.i64 x, Value.string s, Value.slice a m cap]] w fun e w' => e = .returned (.bool (decide (ownQ 11 n x s m))) ∧ Below w.heap.size w w' := by
  have HN := Lib.hid hn; have HX := Lib.hid hx
  obtain ⟨hn0, hn1⟩ := hn; obtain ⟨hx0, hx1⟩ := hx
  obtain ⟨bb, hbb⟩ : ∃ bb, decide ((0 : Int) ≤ n ∧ n ≤ 1000000000000000) = bb := ⟨_, rfl⟩
  rcases bb with _ | _
  all_goals (have HBB := Lib.hid hbb; clear hbb)
  all_goals go_enter Tryz.func86, Tryz.ntmps86
  all_goals go_wp2_with (go_at_call 125; refine (impl_within _ _ _ _).mono ?_; rintro e w2 ⟨rfl, hb⟩; rw [HBB.out]; have q2 := (Is.new w _ 26).below hb (by simp); obtain ⟨r0, r1, r2, r3, r4⟩ := q2.cells5; have hl2 : w.heap.size < w2.heap.size := Nat.lt_of_lt_of_le (by simp) hb.size)
  all_goals
    go_ret
    refine ⟨ret_b ?_, by first | exact below1 _ _ | exact below_step (below1 _ _) hb (by simp)⟩
    first | (exact (decide_eq_false (fun h => absurd ((own11 n x s m).1 h).1 (by assumption))).symm) | (exact (decide_eq_false (fun h => by have g := (own11 n x s m).1 h; have g2 := g.2; omega)).symm) | (exact (decide_eq_false (fun h => by have g := (own11 n x s m).1 h; have g2 := g.2.2.1; have g3 := of_decide_eq_false HBB.out; exact g3 g2)).symm) | (exact (decide_eq_decide.2 ((own11 n x s m).trans ⟨fun h => by have g := h.2.2.2; omega, fun h => ⟨by assumption, by omega, of_decide_eq_true HBB.out, by omega⟩⟩)).symm) | (exact (decide_eq_true ((own11 n x s m).2 ⟨by assumption, by omega, of_decide_eq_true HBB.out, by omega⟩)).symm)
set_option maxHeartbeats 4000000 in
theorem impl_own_o (k n x : Int) (s : ByteArray) (a : Option Addr) (m cap : Nat) (w : World) (hlc : m ≤ cap) (hcap : cap ≤ 9223372036854775807) (hn : I64 n) (hx : I64 x) (hk : k < 1 ∨ 11 < k) :
    Calls Tryz.prog 86 #[.agg #[Value.int IntKind.i64 k, Value.int IntKind.i64 n, Value.int IntKind.i64 x, Value.string s, Value.slice a m cap]] w fun e w' => e = .returned (.bool (decide (ownQ k n x s m))) ∧ Below w.heap.size w w' := by
  have HN := Lib.hid hn; have HX := Lib.hid hx
  obtain ⟨hn0, hn1⟩ := hn; obtain ⟨hx0, hx1⟩ := hx
  go_enter Tryz.func86, Tryz.ntmps86
  go_wp2_with fail
  all_goals
    go_ret
    refine ⟨ret_b ?_, by first | exact below1 _ _ | exact below_step (below1 _ _) hb (by simp)⟩
    exact (decide_eq_false (ownQ_out _ _ _ _ _ hk)).symm
theorem impl_ownOk (t : T) (a : Option Addr) (cap : Nat) (w : World) (hlc : t.l.length ≤ cap) (hcap : cap ≤ 9223372036854775807) (hwf : Wf t) (hss : t.s.size ≤ 4611686018427387903)
    (htab : Lib.TabBelow Tryz.prog w.heap.size w "internal/strconv.uint64pow10" .u64 Lib.pow10Tab) (hU : UtfBelow w.heap.size w) :
    Calls Tryz.prog 86 #[.agg (cV t a cap)] w fun e w' => e = .returned (.bool (decide (ownP t))) ∧ Below w.heap.size w w' := by
  obtain ⟨k, n, x, s, l⟩ := t
  obtain ⟨hk, hn, hx, _⟩ := hwf
  simp only [T.k, T.n, T.x, T.s, T.l, cV, ownP] at *
  have hcases : k = 1 ∨ k = 2 ∨ k = 3 ∨ k = 4 ∨ k = 5 ∨ k = 6 ∨ k = 7 ∨ k = 8 ∨ k = 9 ∨ k = 10 ∨ k = 11 ∨ (k < 1 ∨ 11 < k) := by omega
  obtain rfl | rfl | rfl | rfl | rfl | rfl | rfl | rfl | rfl | rfl | rfl | hko := hcases
  · exact impl_own_1 n x s a l.length cap w hlc hcap hn hx
  · exact impl_own_2 n x s a l.length cap w hlc hcap hn hx
  · exact impl_own_3 n x s a l.length cap w hlc hcap hn hx
  · exact impl_own_4 n x s a l.length cap w hlc hcap hn hx
  · exact impl_own_5 n x s a l.length cap w hlc hcap hn hx
  · exact impl_own_6 n x s a l.length cap w hlc hcap hn hx htab
  · exact impl_own_7 n x s a l.length cap w hlc hcap hn hx hss hU
  · exact impl_own_8 n x s a l.length cap w hlc hcap hn hx
  · exact impl_own_9 n x s a l.length cap w hlc hcap hn hx
  · exact impl_own_10 n x s a l.length cap w hlc hcap hn hx
  · exact impl_own_11 n x s a l.length cap w hlc hcap hn hx
  · exact impl_own_o k n x s a l.length cap w hlc hcap hn hx hko
end Go.Proofs.YtggdenkmohnijaaGreatDoor
