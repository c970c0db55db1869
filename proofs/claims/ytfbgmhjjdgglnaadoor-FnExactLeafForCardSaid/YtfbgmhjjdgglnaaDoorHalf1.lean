/- Contracts and lemmas for the proofs of this seat: Half1. No condition beyond those stated. -/
import Derived.Test.YtfbgmhjjdgglnaaDoorRows
import Derived.WalkKit
import Derived.ProofKit
import Derived.OpenShut
import Derived.Handy
import Derived.Lib.Hide
import Derived.Lib.SmallJoins
import Derived.Laws.BytesArg
import Derived.Lib.ItoaNum
import Derived.Lib.ItoaLen
import Derived.Lib.AppendIntMem
import Derived.Deep.RegionHeld3
import Derived.Test.YtfbgmhjjdgglnaaDoorBase
import Derived.Test.YtfbgmhjjdgglnaaDoorGen
import Derived.Test.YtfbgmhjjdgglnaaDoorKit
import Derived.Test.YtfbgmhjjdgglnaaDoorMark
import Derived.Test.YtfbgmhjjdgglnaaDoorApp
import Derived.Test.YtfbgmhjjdgglnaaDoorMarkV
import Derived.Test.YtfbgmhjjdgglnaaDoorLawVal
import Derived.Test.YtfbgmhjjdgglnaaDoorCopy
import Derived.Test.YtfbgmhjjdgglnaaDoorPathAt
import Derived.Test.YtfbgmhjjdgglnaaDoorPathAt2
import Derived.Test.YtfbgmhjjdgglnaaDoorShelf
import Derived.Test.YtfbgmhjjdgglnaaDoorNum
import Derived.Test.YtfbgmhjjdgglnaaDoorTextF
import Derived.Test.YtfbgmhjjdgglnaaDoorValF
import Derived.Test.YtfbgmhjjdgglnaaDoorValF2
import Derived.Test.YtfbgmhjjdgglnaaDoorValF3
import Derived.Test.YtfbgmhjjdgglnaaDoorDecF
import Derived.Test.YtfbgmhjjdgglnaaDoorDecF2
import Derived.Test.YtfbgmhjjdgglnaaDoorFltD
import Derived.Test.YtfbgmhjjdgglnaaDoorNearP
import Derived.Test.YtfbgmhjjdgglnaaDoorFltN
import Derived.Test.YtfbgmhjjdgglnaaDoorDiv
import Derived.Test.YtfbgmhjjdgglnaaDoorDiv2
import Derived.Test.YtfbgmhjjdgglnaaDoorNear1
import Derived.Test.YtfbgmhjjdgglnaaDoorNear3
import Derived.Test.YtfbgmhjjdgglnaaDoorNear2
import Derived.Test.YtfbgmhjjdgglnaaDoorNear4
namespace Go.Proofs.YtfbgmhjjdgglnaaDoor
open Go.ChangeShapes Go.WideShapes Go.ChangeAt Go.RowKit Go.Joins
set_option linter.unusedVariables false
set_option maxRecDepth 100000
mutual
/-- A tree whose numbers have become floating-point numbers. -/
def halfT : T → Option T
  | .mk k n x s l => if k = 3 ∨ k = 6 then (if (nearD n x).2 = true then some (.mk 4 (nearD n x).1.1 (nearD n x).1.2 ⟨#[]⟩ []) else none)
    else (halfTs l).map (fun r => .mk k n x s r)
def halfTs : List T → Option (List T)
  | [] => some []
  | t :: r => (halfT t).bind (fun a => (halfTs r).map (fun b => a :: b))
end
theorem halfTs_snoc (l : List T) (t : T) : halfTs (l ++ [t]) = (halfTs l).bind (fun r => (halfT t).map (fun a => r ++ [a])) := by
  induction l with
  | nil => cases h : halfT t <;> simp [halfTs, h]
  | cons u r ih =>
    rw [List.cons_append, halfTs, halfTs, ih]
    cases halfT u <;> cases halfTs r <;> cases halfT t <;> simp
theorem halfTs_succ (l : List T) (j : Nat) (h : j < l.length) : halfTs (l.take (j + 1)) = (halfTs (l.take j)).bind (fun r => (halfT l[j]).map (fun a => r ++ [a])) := by
  rw [take_snoc l j h, halfTs_snoc]
theorem halfTs_none (l : List T) (j : Nat) (h : j < l.length) (hn : halfT l[j] = none) : halfTs l = none := by
  have h1 : halfTs (l.take (j + 1)) = none := by rw [halfTs_succ l j h, hn]; cases halfTs (l.take j) <;> rfl
  have h2 : ∀ d, halfTs (l.take (j + 1 + d)) = none := by
    intro d
    induction d with
    | zero => exact h1
    | succ d ih =>
      by_cases hd : j + 1 + d < l.length
      · rw [← Nat.add_assoc, halfTs_succ l (j + 1 + d) hd, ih]; rfl
      · rw [List.take_of_length_le (by omega)]; rw [List.take_of_length_le (by omega)] at ih; exact ih
  have := h2 (l.length - (j + 1))
  rwa [List.take_of_length_le (by omega)] at this
theorem halfTs_length (l : List T) : ∀ r, halfTs l = some r → r.length = l.length := by
  induction l with
  | nil => intro r h; simp [halfTs] at h; subst h; rfl
  | cons t l ih =>
    intro r h
    rw [halfTs] at h
    cases h1 : halfT t with
    | none => rw [h1] at h; cases h
    | some a =>
      cases h2 : halfTs l with
      | none => rw [h1, h2] at h; cases h
      | some b => rw [h1, h2] at h; simp at h; subst h; simp [ih b h2]
set_option maxHeartbeats 4000000 in
theorem impl_nearVal (t : T) (a : Option Addr) (cap : Nat) (w : World) (hn : I64 t.n) (hx : I64 t.x) (htab : Lib.TabBelow Tryd.prog w.heap.size w "internal/strconv.uint64pow10" .u64 Lib.pow10Tab) :
    Calls Tryd.prog 45 #[.agg (cV t a cap)] w fun e w' => e = .returned (.tuple #[.agg #[.int .i64 4, .int .i64 (nearD t.n t.x).1.1, .int .i64 (nearD t.n t.x).1.2, .string ⟨#[]⟩, .slice none 0 0], .bool (nearD t.n t.x).2]) ∧ Below w.heap.size w w' := by
  obtain ⟨k, n, x, s, l⟩ := t
  simp only [cV, T.k, T.n, T.x, T.s, T.l] at hn hx ⊢
  obtain ⟨RR, hRR⟩ : ∃ r, nearD n x = r := ⟨_, rfl⟩
  rw [hRR]
  have HRR := Lib.hid hRR; clear hRR
  have HN := Lib.hid hn
  have HX := Lib.hid hx
  have HT := Lib.hid htab
  clear hn hx htab
  go_enter Tryd.func45, Tryd.ntmps45
  go_wp2_with fail
  generalize hW : (w.alloc (Obj.cells #[Value.int IntKind.i64 k, Value.int IntKind.i64 n, Value.int IntKind.i64 x, Value.string s, Value.slice a l.length cap] 31)).alloc (Obj.cells zV 31) = W0
  have q1 : Is W0 w.heap.size 31 #[Value.int IntKind.i64 k, Value.int IntKind.i64 n, Value.int IntKind.i64 x, Value.string s, Value.slice a l.length cap] := by subst hW; exact (Is.new _ _ _).alloc _
  have q2 : Is W0 (w.heap.size + 1) 31 zV := by subst hW; exact Is.new2 _ _ _ _
  have H0 := Lib.hid (show Below w.heap.size w W0 from by subst hW; exact below2 _ _ _)
  have hs0 : W0.heap.size = w.heap.size + 2 := by subst hW; simp
  clear hW
  refine (impl_NearFlt n x W0 HN.out HX.out (fun V hV => HT.out V (H0.out.trans (hV.mono (by omega))))).mono ?_
  rintro ee w2 ⟨rfl, hb2⟩
  rw [HRR.out]
  have hs2 := hb2.size
  have p2 := q2.below hb2 (by omega)
  have HB2 := Lib.hid (H0.out.trans (hb2.mono (by omega))); clear hb2
  have p3 := p2.alloc (.cells (cF RR.1.1 RR.1.2) 65)
  have q3 := Is.new w2 (cF RR.1.1 RR.1.2) 65
  have HB3 := Lib.hid (HB2.out.trans ((below1 w2 (.cells (cF RR.1.1 RR.1.2) 65)).mono (by omega)))
  have ff := fun i => p3.frozen i
  obtain ⟨o0, o1, o2, o3, o4⟩ := p3.cells5
  obtain ⟨y0, y1⟩ := q3.cells2b
  have hl1 : w.heap.size + 1 < (w2.alloc (.cells (cF RR.1.1 RR.1.2) 65)).heap.size := by simp; omega
  dsimp only
  repeat (first | go_values | go_skip | go_guarded | go_step | go_upon)
  obtain ⟨e0, e1, e2, e3, e4, hbel, hold, hsz⟩ := out5 p3.blk (.int .i64 4) (.int .i64 RR.1.1) (.int .i64 RR.1.2) (.string ⟨#[]⟩) (.slice none 0 0) w.heap.size (by omega)
  refine bodyPost_ret (v := .tuple #[.agg #[.int .i64 4, .int .i64 RR.1.1, .int .i64 RR.1.2, .string ⟨#[]⟩, .slice none 0 0], .bool RR.2]) (by simp [results, Tryd.results45, go_sem, e0, e1, e2, e3, e4]) rfl ⟨rfl, HB3.out.trans hbel⟩
set_option maxHeartbeats 4000000 in
theorem spec_l6FltVal (m x : Int) (w : World) :
    Calls Tryd.prog 44 #[.agg (cF m x)] w fun e w' => e = .returned (.agg #[.int .i64 4, .int .i64 m, .int .i64 x, .string ⟨#[]⟩, .slice none 0 0]) ∧ Below w.heap.size w w' := by
  go_enter Tryd.func44, Tryd.ntmps44
  go_wp2_with fail
  have q2 : Is ((w.alloc (Obj.cells (cF m x) 65)).alloc (Obj.cells #[Value.int IntKind.i64 4, Value.int IntKind.i64 m, Value.int IntKind.i64 x, Value.string ⟨#[]⟩, Value.slice none 0 0] 31)) (w.heap.size + 1) 31 _ := Is.new2 _ _ _ _
  obtain ⟨e0, e1, e2, e3, e4⟩ := q2.cells5
  refine bodyPost_ret (v := .agg #[.int .i64 4, .int .i64 m, .int .i64 x, .string ⟨#[]⟩, .slice none 0 0]) (by simp [results, Tryd.results44, go_sem, e0, e1, e2, e3, e4]) rfl ⟨rfl, below2 _ _ _⟩
theorem slices_ClipVal (a : Option Addr) (n c : Nat) (w : World) (hn : n ≤ c) (hc : c ≤ 9223372036854775807) :
    Calls Tryd.prog 46 #[.slice a n c] w fun e w' => e = .returned (.slice a n n) ∧ w' = w := by
  go_enter Tryd.func46, Tryd.ntmps46
  go_wp2_with fail
  go_ret
  exact ⟨rfl, rfl⟩
theorem halfT_wf {t t' : T} (h : Wf t) (hh : halfT t = some t') : Wf t' := by
  obtain ⟨k, n, x, s, l⟩ := t
  rw [halfT] at hh
  have hb := nearD_box n x
  by_cases hk : k = 3 ∨ k = 6
  · rw [if_pos hk] at hh
    by_cases ho : (nearD n x).2 = true
    · rw [if_pos ho] at hh
      injection hh with hh
      subst hh
      exact ⟨⟨by simp [T.k], by simp [T.k]⟩, ⟨by simp only [T.n]; omega, by simp only [T.n]; omega⟩, ⟨by simp only [T.x]; omega, by simp only [T.x]; omega⟩, by simp [T.s, ByteArray.size, maxLen]⟩
    · rw [if_neg ho] at hh; cases hh
  · rw [if_neg hk] at hh
    cases h2 : halfTs l with
    | none => rw [h2] at hh; cases hh
    | some r =>
      rw [h2] at hh
      injection hh with hh
      subst hh
      exact h
theorem Own.clip {w : World} {lo hi cap : Nat} {a : Option Addr} {l : List T} (h : Own w lo hi a cap l) : Own w lo hi a l.length l := by
  obtain ⟨F, ⟨h1, h2, h3, h4⟩, h5, h6⟩ := h
  exact ⟨F, ⟨Nat.le_refl _, Nat.le_trans h1 h2, h3, h4⟩, h5, h6⟩
end Go.Proofs.YtfbgmhjjdgglnaaDoor
