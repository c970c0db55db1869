/- Contracts and lemmas for the proofs of this seat: LeafP. No condition beyond those stated. -/
import Derived.Test.YtfbgmhjjdgglnaaDoorRows
import Derived.WalkKit
import Derived.ProofKit
import Derived.OpenShut
import Derived.Handy
import Derived.Lib.Hide
import Derived.Lib.SmallJoins
import Derived.Laws.BytesArg
import Derived.Lib.ItoaNum
import Derived.Lib.ItoaLen
import Derived.Lib.AppendIntMem
import Derived.Deep.RegionHeld3
import Derived.Test.YtfbgmhjjdgglnaaDoorBase
import Derived.Test.YtfbgmhjjdgglnaaDoorGen
import Derived.Test.YtfbgmhjjdgglnaaDoorKit
import Derived.Test.YtfbgmhjjdgglnaaDoorMark
import Derived.Test.YtfbgmhjjdgglnaaDoorApp
import Derived.Test.YtfbgmhjjdgglnaaDoorMarkV
import Derived.Test.YtfbgmhjjdgglnaaDoorLawVal
import Derived.Test.YtfbgmhjjdgglnaaDoorCopy
import Derived.Test.YtfbgmhjjdgglnaaDoorPathAt
import Derived.Test.YtfbgmhjjdgglnaaDoorPathAt2
import Derived.Test.YtfbgmhjjdgglnaaDoorSame2
import Derived.Test.YtfbgmhjjdgglnaaDoorOnce
import Derived.Test.YtfbgmhjjdgglnaaDoorNamesT
import Derived.Test.YtfbgmhjjdgglnaaDoorShelf
import Derived.Test.YtfbgmhjjdgglnaaDoorNum
import Derived.Test.YtfbgmhjjdgglnaaDoorTextF
import Derived.Test.YtfbgmhjjdgglnaaDoorValF
import Derived.Test.YtfbgmhjjdgglnaaDoorValF2
import Derived.Test.YtfbgmhjjdgglnaaDoorValF3
import Derived.Test.YtfbgmhjjdgglnaaDoorDecF
import Derived.Test.YtfbgmhjjdgglnaaDoorDecF2
import Derived.Test.YtfbgmhjjdgglnaaDoorFltD
import Derived.Test.YtfbgmhjjdgglnaaDoorNearP
import Derived.Test.YtfbgmhjjdgglnaaDoorFltN
import Derived.Test.YtfbgmhjjdgglnaaDoorDiv
import Derived.Test.YtfbgmhjjdgglnaaDoorDiv2
import Derived.Test.YtfbgmhjjdgglnaaDoorNear1
import Derived.Test.YtfbgmhjjdgglnaaDoorNear3
import Derived.Test.YtfbgmhjjdgglnaaDoorNear2
import Derived.Test.YtfbgmhjjdgglnaaDoorNear4
import Derived.Test.YtfbgmhjjdgglnaaDoorHalf1
import Derived.Test.YtfbgmhjjdgglnaaDoorHexT
namespace Go.Proofs.YtfbgmhjjdgglnaaDoor
open Go.ChangeShapes Go.WideShapes Go.ChangeAt Go.RowKit Go.Joins
set_option linter.unusedVariables false
set_option maxRecDepth 100000
/-- Is a decimal number a floating-point number? -/
def exactD (n x : Int) : Bool := (nearD n x).2 && decide (fltDecD (nearD n x).1.1 (nearD n x).1.2 = (n, x))
/-- An integer or a decimal number. -/
def numV (d : Int × Int) : T := if d.2 = 0 then .mk 3 d.1 0 ⟨#[]⟩ [] else .mk 6 d.1 d.2 ⟨#[]⟩ []
/-- A number by halves, and what is lost. -/
def nearW (n x : Int) : T × Int := if (nearD n x).2 = true then (.mk 4 (nearD n x).1.1 (nearD n x).1.2 ⟨#[]⟩ [], if exactD n x = true then 1 else 2) else (.mk 1 0 0 ⟨#[]⟩ [], 3)
/-- The leaf of a format, and what is lost. -/
def leafW (way k n x : Int) (s : ByteArray) (l : List T) : T × Int :=
  if (k = 3 ∧ way = 4) ∨ (k = 6 ∧ 2 ≤ way ∧ way ≤ 4) then
    nearW n x
  else if k = 4 ∧ way = 1 then (numV (fltDecD n x), 1)
  else if k = 5 ∧ (way = 1 ∨ way = 4) then (.mk 1 0 0 ⟨#[]⟩ [], 4)
  else if k = 8 ∧ (way = 1 ∨ way = 4) then (.mk 7 0 0 (hexT s) [], 5)
  else (.mk k n x s l, 0)
def lT (way : Int) (t : T) : T := (leafW way t.k t.n t.x t.s t.l).1
def lN (way : Int) (t : T) : Int := (leafW way t.k t.n t.x t.s t.l).2
theorem numV_wf (d : Int × Int) (h1 : I64 d.1) (h2 : I64 d.2) : Wf (numV d) := by
  unfold numV
  split
  · exact ⟨⟨by simp [T.k], by simp [T.k]⟩, h1, ⟨by simp [T.x], by simp [T.x]⟩, by simp [T.s, ByteArray.size, maxLen]⟩
  · exact ⟨⟨by simp [T.k], by simp [T.k]⟩, h1, h2, by simp [T.s, ByteArray.size, maxLen]⟩
theorem numV_l (d : Int × Int) : (numV d).l = [] := by unfold numV; split <;> rfl
theorem hexT_size (s : ByteArray) : (hexT s).size = 2 * s.size := by
  unfold hexT
  rw [strOfNums_size, hexL_len, ← Lib.size_eq]
theorem lT_wf (way : Int) {t : T} (h : Wf t) (hs : t.s.size ≤ 1048576) : Wf (lT way t) := by
  obtain ⟨k, n, x, s, l⟩ := t
  show Wf (leafW way k n x s l).1
  replace hs : s.size ≤ 1048576 := hs
  have hb := nearD_box n x
  have hf := fltDecD_box n x
  have h1 : Wf (.mk 1 0 0 ⟨#[]⟩ []) := ⟨⟨by simp [T.k], by simp [T.k]⟩, ⟨by simp [T.n], by simp [T.n]⟩, ⟨by simp [T.x], by simp [T.x]⟩, by simp [T.s, ByteArray.size, maxLen]⟩
  unfold leafW
  split
  · unfold nearW
    split
    · exact ⟨⟨by simp [T.k], by simp [T.k]⟩, ⟨by simp only [T.n]; omega, by simp only [T.n]; omega⟩, ⟨by simp only [T.x]; omega, by simp only [T.x]; omega⟩, by simp [T.s, ByteArray.size, maxLen]⟩
    · exact h1
  · split
    · exact numV_wf _ hf.1 ⟨by omega, by omega⟩
    · split
      · exact h1
      · split
        · exact ⟨⟨by simp [T.k], by simp [T.k]⟩, ⟨by simp [T.n], by simp [T.n]⟩, ⟨by simp [T.x], by simp [T.x]⟩, by simp only [T.s, hexT_size]; unfold maxLen; omega⟩
        · exact h
theorem nearW_l (n x : Int) : (nearW n x).1.l = [] := by unfold nearW; split <;> rfl
theorem lT_l (way : Int) (t : T) : (lT way t).l = [] ∨ (lT way t).l = t.l := by
  obtain ⟨k, n, x, s, l⟩ := t
  show (leafW way k n x s l).1.l = [] ∨ (leafW way k n x s l).1.l = l
  unfold leafW
  split
  · exact Or.inl (nearW_l n x)
  · split
    · exact Or.inl (numV_l _)
    · split
      · exact Or.inl rfl
      · split
        · exact Or.inl rfl
        · exact Or.inr rfl
theorem lcountL_le_sz (t : T) : T.countL t.l ≤ T.sz t := by
  have h2 := T.countL_le_szL t
  have h3 : T.count t = T.countL t.l + 1 := by cases t; simp only [T.count, T.l]
  omega
theorem lT_sz (way : Int) (t : T) : T.countL (lT way t).l ≤ T.sz t := by
  rcases lT_l way t with h | h
  · rw [h]; simp [T.countL]
  · rw [h]; exact lcountL_le_sz t
theorem lsz_string (t : T) : t.s.size ≤ T.sz t := by cases t; simp only [T.s, T.sz]; omega
end Go.Proofs.YtfbgmhjjdgglnaaDoor
