/- Contracts and lemmas for the proofs of this seat: PathAt. No condition beyond those stated. -/
import Derived.Test.YtfbgmhjjdgglnaaDoorRows
import Derived.WalkKit
import Derived.ProofKit
import Derived.OpenShut
import Derived.Handy
import Derived.Lib.Hide
import Derived.Lib.SmallJoins
import Derived.Deep.RegionHeld3
import Derived.Deep.AppendLies
import Derived.Deep.QuietTactic
import Derived.BigQuiet
import Derived.Test.YtfbgmhjjdgglnaaDoorBase
import Derived.Test.YtfbgmhjjdgglnaaDoorGen
import Derived.Test.YtfbgmhjjdgglnaaDoorKit
import Derived.Test.YtfbgmhjjdgglnaaDoorMark
import Derived.Test.YtfbgmhjjdgglnaaDoorApp
import Derived.Test.YtfbgmhjjdgglnaaDoorMarkV
import Derived.Test.YtfbgmhjjdgglnaaDoorLawVal
import Derived.Test.YtfbgmhjjdgglnaaDoorCopy
namespace Go.Proofs.YtfbgmhjjdgglnaaDoor
open Go.ChangeShapes Go.WideShapes Go.ChangeAt Go.RowKit Go.Joins
set_option linter.unusedVariables false
set_option maxRecDepth 100000
/-- The place of the element that a step leads to; -1 if there is none. -/
def rawI (t : T) (s : St) : Int := if t.k = 10 then (if s.2 then 2 * s.1 else 2 * s.1 + 1) else s.1
def okI (t : T) (s : St) : Prop := 0 ≤ s.1 ∧ (s.2 = true → t.k = 10) ∧ rawI t s < t.l.length
instance (t : T) (s : St) : Decidable (okI t s) := by unfold okI; exact inferInstance
def idxT (t : T) (s : St) : Int := if okI t s then rawI t s else -1
theorem idxT_ok {t : T} {s : St} (h : okI t s) : idxT t s = rawI t s := if_pos h
theorem idxT_no {t : T} {s : St} (h : ¬ okI t s) : idxT t s = -1 := if_neg h
theorem rawI_nonneg {t : T} {s : St} (h : okI t s) : 0 ≤ rawI t s := by
  unfold rawI; have := h.1; split
  · split <;> omega
  · exact this
def zT : T := .mk 0 0 0 ⟨#[]⟩ []
def atT : T → List St → Option T
  | t, [] => some t
  | t, s :: r => if h : okI t s then atT (t.l.getD (rawI t s).toNat zT) r else none
theorem atT_drop_ok {x : T} {p : List St} {j : Nat} (hj : j < p.length) (h : okI x p[j]) : atT x (p.drop j) = atT (x.l.getD (rawI x p[j]).toNat zT) (p.drop (j + 1)) := by
  rw [List.drop_eq_getElem_cons hj, atT, dif_pos h]
theorem atT_drop_no {x : T} {p : List St} {j : Nat} (hj : j < p.length) (h : ¬ okI x p[j]) : atT x (p.drop j) = none := by
  rw [List.drop_eq_getElem_cons hj, atT, dif_neg h]
theorem atT_end (x : T) (p : List St) : atT x (p.drop p.length) = some x := by rw [List.drop_length, atT]
set_option maxHeartbeats 2000000 in
theorem spec_l8Place (t : T) (s : St) (a : Option Addr) (cap : Nat) (w : World) (hi : I64 s.1) (hl : t.l.length ≤ 1073741824) :
    Calls Tryd.prog 107 #[.agg (cV t a cap), .agg #[.int .i64 s.1, .bool s.2]] w fun e w' => e = .returned (.int .i64 (idxT t s)) ∧ Below w.heap.size w w' := by
  obtain ⟨k, n, x, st, l⟩ := t
  obtain ⟨p, q⟩ := s
  obtain ⟨hi1, hi2⟩ := hi
  simp only [cV, T.k, T.n, T.x, T.s, T.l] at hl hi1 hi2 ⊢
  have H2 := Lib.hid (below2 w (.cells #[Value.int IntKind.i64 k, Value.int IntKind.i64 n, Value.int IntKind.i64 x, Value.string st, Value.slice a l.length cap] 31) (.cells #[.int .i64 p, .bool q] 87))
  by_cases hk : k = 10
  · subst hk
    by_cases h1 : p < 0
    · have HI := Lib.hid (show idxT (.mk 10 n x st l) (p, q) = -1 from idxT_no (fun h => by have := h.1; simp at this; omega))
      go_enter Tryd.func107, Tryd.ntmps107
      go_wp2
      all_goals (go_ret; exact ⟨ret_i HI.out.symm, H2.out⟩)
    by_cases h2 : (l.length : Int) < p
    · have HI := Lib.hid (show idxT (.mk 10 n x st l) (p, q) = -1 from idxT_no (fun h => by
        have := h.2.2; unfold rawI at this; simp only [T.k, T.l] at this; cases q <;> simp at this <;> omega))
      go_enter Tryd.func107, Tryd.ntmps107
      go_wp2
      all_goals (go_ret; exact ⟨ret_i HI.out.symm, H2.out⟩)
    cases q
    · by_cases h3 : 2 * p + 1 < l.length
      · have h4 : 2 * p + 1 ≤ (l.length : Int) - 1 := by omega
        have HI := Lib.hid (show idxT (.mk 10 n x st l) (p, false) = 2 * p + 1 from by
          have h : rawI (.mk 10 n x st l) (p, false) = 2 * p + 1 := by unfold rawI; simp [T.k]
          rw [idxT_ok ⟨by simp; omega, by simp, by rw [h]; exact h3⟩, h])
        go_enter Tryd.func107, Tryd.ntmps107
        go_wp2
        all_goals (go_ret; exact ⟨ret_i HI.out.symm, H2.out⟩)
      · have h4 : ¬ (2 * p + 1 ≤ (l.length : Int) - 1) := by omega
        have HI := Lib.hid (show idxT (.mk 10 n x st l) (p, false) = -1 from by
          have h : rawI (.mk 10 n x st l) (p, false) = 2 * p + 1 := by unfold rawI; simp [T.k]
          exact idxT_no (fun g => h3 (by have := g.2.2; rw [h] at this; exact this)))
        go_enter Tryd.func107, Tryd.ntmps107
        go_wp2
        all_goals (go_ret; exact ⟨ret_i HI.out.symm, H2.out⟩)
    · by_cases h3 : 2 * p < l.length
      · have h4 : 2 * p ≤ (l.length : Int) - 1 := by omega
        have HI := Lib.hid (show idxT (.mk 10 n x st l) (p, true) = 2 * p from by
          have h : rawI (.mk 10 n x st l) (p, true) = 2 * p := by unfold rawI; simp [T.k]
          rw [idxT_ok ⟨by simp; omega, by simp [T.k], by rw [h]; exact h3⟩, h])
        go_enter Tryd.func107, Tryd.ntmps107
        go_wp2
        all_goals (go_ret; exact ⟨ret_i HI.out.symm, H2.out⟩)
      · have h4 : ¬ (2 * p ≤ (l.length : Int) - 1) := by omega
        have HI := Lib.hid (show idxT (.mk 10 n x st l) (p, true) = -1 from by
          have h : rawI (.mk 10 n x st l) (p, true) = 2 * p := by unfold rawI; simp [T.k]
          exact idxT_no (fun g => h3 (by have := g.2.2; rw [h] at this; exact this)))
        go_enter Tryd.func107, Tryd.ntmps107
        go_wp2
        all_goals (go_ret; exact ⟨ret_i HI.out.symm, H2.out⟩)
  · have hkb : (k == 10) = false := by simp [hk]
    cases q
    · by_cases h1 : p < 0
      · have HI := Lib.hid (show idxT (.mk k n x st l) (p, false) = -1 from idxT_no (fun h => by have := h.1; simp at this; omega))
        clear hk
        go_enter Tryd.func107, Tryd.ntmps107
        go_wp2
        all_goals (go_ret; exact ⟨ret_i HI.out.symm, H2.out⟩)
      by_cases h3 : p < l.length
      · have h4 : p ≤ (l.length : Int) - 1 := by omega
        have HI := Lib.hid (show idxT (.mk k n x st l) (p, false) = p from by
          have h : rawI (.mk k n x st l) (p, false) = p := by unfold rawI; simp [T.k, hk]
          rw [idxT_ok ⟨by simp; omega, by simp, by rw [h]; exact h3⟩, h])
        clear hk
        go_enter Tryd.func107, Tryd.ntmps107
        go_wp2
        all_goals (go_ret; exact ⟨ret_i HI.out.symm, H2.out⟩)
      · have h4 : ¬ (p ≤ (l.length : Int) - 1) := by omega
        have HI := Lib.hid (show idxT (.mk k n x st l) (p, false) = -1 from by
          have h : rawI (.mk k n x st l) (p, false) = p := by unfold rawI; simp [T.k, hk]
          exact idxT_no (fun g => h3 (by have := g.2.2; rw [h] at this; exact this)))
        clear hk
        go_enter Tryd.func107, Tryd.ntmps107
        go_wp2
        all_goals (go_ret; exact ⟨ret_i HI.out.symm, H2.out⟩)
    · have HI := Lib.hid (show idxT (.mk k n x st l) (p, true) = -1 from idxT_no (fun h => hk (h.2.1 rfl)))
      clear hk
      go_enter Tryd.func107, Tryd.ntmps107
      go_wp2
      all_goals (go_ret; exact ⟨ret_i HI.out.symm, H2.out⟩)
set_option maxHeartbeats 2000000 in
theorem impl_index (t : T) (s : St) (a : Option Addr) (cap : Nat) (w : World) (hi : I64 s.1) (hl : t.l.length ≤ 1073741824) :
    Calls Tryd.prog 72 #[.agg #[.int .i64 s.1, .bool s.2], .agg (cV t a cap)] w fun e w' => e = .returned (.int .i64 (idxT t s)) ∧ Below w.heap.size w w' := by
  obtain ⟨k, n, x, st, l⟩ := t
  obtain ⟨p, q⟩ := s
  obtain ⟨hi1, hi2⟩ := hi
  simp only [cV, T.k, T.n, T.x, T.s, T.l] at hl hi1 hi2 ⊢
  have H2 := Lib.hid (below2 w (.cells #[.int .i64 p, .bool q] 87) (.cells #[Value.int IntKind.i64 k, Value.int IntKind.i64 n, Value.int IntKind.i64 x, Value.string st, Value.slice a l.length cap] 31))
  by_cases hk : k = 10
  · subst hk
    by_cases h1 : p < 0
    · have HI := Lib.hid (show idxT (.mk 10 n x st l) (p, q) = -1 from idxT_no (fun h => by have := h.1; simp at this; omega))
      go_enter Tryd.func72, Tryd.ntmps72
      go_wp2
      all_goals (go_ret; exact ⟨ret_i HI.out.symm, H2.out⟩)
    by_cases h2 : (l.length : Int) < p
    · have HI := Lib.hid (show idxT (.mk 10 n x st l) (p, q) = -1 from idxT_no (fun h => by
        have := h.2.2; unfold rawI at this; simp only [T.k, T.l] at this; cases q <;> simp at this <;> omega))
      go_enter Tryd.func72, Tryd.ntmps72
      go_wp2
      all_goals (go_ret; exact ⟨ret_i HI.out.symm, H2.out⟩)
    cases q
    · by_cases h3 : 2 * p + 1 < l.length
      · have h4 : 2 * p + 1 ≤ (l.length : Int) - 1 := by omega
        have HI := Lib.hid (show idxT (.mk 10 n x st l) (p, false) = 2 * p + 1 from by
          have h : rawI (.mk 10 n x st l) (p, false) = 2 * p + 1 := by unfold rawI; simp [T.k]
          rw [idxT_ok ⟨by simp; omega, by simp, by rw [h]; exact h3⟩, h])
        go_enter Tryd.func72, Tryd.ntmps72
        go_wp2
        all_goals (go_ret; exact ⟨ret_i HI.out.symm, H2.out⟩)
      · have h4 : ¬ (2 * p + 1 ≤ (l.length : Int) - 1) := by omega
        have HI := Lib.hid (show idxT (.mk 10 n x st l) (p, false) = -1 from by
          have h : rawI (.mk 10 n x st l) (p, false) = 2 * p + 1 := by unfold rawI; simp [T.k]
          exact idxT_no (fun g => h3 (by have := g.2.2; rw [h] at this; exact this)))
        go_enter Tryd.func72, Tryd.ntmps72
        go_wp2
        all_goals (go_ret; exact ⟨ret_i HI.out.symm, H2.out⟩)
    · by_cases h3 : 2 * p < l.length
      · have h4 : 2 * p ≤ (l.length : Int) - 1 := by omega
        have HI := Lib.hid (show idxT (.mk 10 n x st l) (p, true) = 2 * p from by
          have h : rawI (.mk 10 n x st l) (p, true) = 2 * p := by unfold rawI; simp [T.k]
          rw [idxT_ok ⟨by simp; omega, by simp [T.k], by rw [h]; exact h3⟩, h])
        go_enter Tryd.func72, Tryd.ntmps72
        go_wp2
        all_goals (go_ret; exact ⟨ret_i HI.out.symm, H2.out⟩)
      · have h4 : ¬ (2 * p ≤ (l.length : Int) - 1) := by omega
        have HI := Lib.hid (show idxT (.mk 10 n x st l) (p, true) = -1 from by
          have h : rawI (.mk 10 n x st l) (p, true) = 2 * p := by unfold rawI; simp [T.k]
          exact idxT_no (fun g => h3 (by have := g.2.2; rw [h] at this; exact this)))
        go_enter Tryd.func72, Tryd.ntmps72
        go_wp2
        all_goals (go_ret; exact ⟨ret_i HI.out.symm, H2.out⟩)
  · have hkb : (k == 10) = false := by simp [hk]
    cases q
    · by_cases h1 : p < 0
      · have HI := Lib.hid (show idxT (.mk k n x st l) (p, false) = -1 from idxT_no (fun h => by have := h.1; simp at this; omega))
        clear hk
        go_enter Tryd.func72, Tryd.ntmps72
        go_wp2
        all_goals (go_ret; exact ⟨ret_i HI.out.symm, H2.out⟩)
      by_cases h3 : p < l.length
      · have h4 : p ≤ (l.length : Int) - 1 := by omega
        have HI := Lib.hid (show idxT (.mk k n x st l) (p, false) = p from by
          have h : rawI (.mk k n x st l) (p, false) = p := by unfold rawI; simp [T.k, hk]
          rw [idxT_ok ⟨by simp; omega, by simp, by rw [h]; exact h3⟩, h])
        clear hk
        go_enter Tryd.func72, Tryd.ntmps72
        go_wp2
        all_goals (go_ret; exact ⟨ret_i HI.out.symm, H2.out⟩)
      · have h4 : ¬ (p ≤ (l.length : Int) - 1) := by omega
        have HI := Lib.hid (show idxT (.mk k n x st l) (p, false) = -1 from by
          have h : rawI (.mk k n x st l) (p, false) = p := by unfold rawI; simp [T.k, hk]
          exact idxT_no (fun g => h3 (by have := g.2.2; rw [h] at this; exact this)))
        clear hk
        go_enter Tryd.func72, Tryd.ntmps72
        go_wp2
        all_goals (go_ret; exact ⟨ret_i HI.out.symm, H2.out⟩)
    · have HI := Lib.hid (show idxT (.mk k n x st l) (p, true) = -1 from idxT_no (fun h => hk (h.2.1 rfl)))
      clear hk
      go_enter Tryd.func72, Tryd.ntmps72
      go_wp2
      all_goals (go_ret; exact ⟨ret_i HI.out.symm, H2.out⟩)
end Go.Proofs.YtfbgmhjjdgglnaaDoor
