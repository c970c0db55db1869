/- Contracts and lemmas for the proofs of this seat: LossT. No condition beyond those stated. -/
import Derived.Test.YtfbgmhjjdgglnaaDoorRows
import Derived.WalkKit
import Derived.ProofKit
import Derived.OpenShut
import Derived.Handy
import Derived.Lib.Hide
import Derived.Lib.SmallJoins
import Derived.Lib.Join
import Derived.Deep.RegionHeld3
import Derived.Deep.AppendLies
import Derived.Deep.QuietTactic
import Derived.BigQuiet
import Derived.Lib.AppendIntMem
import Derived.Lib.ItoaLen
import Derived.Test.YtfbgmhjjdgglnaaDoorBase
import Derived.Test.YtfbgmhjjdgglnaaDoorGen
import Derived.Test.YtfbgmhjjdgglnaaDoorKit
import Derived.Test.YtfbgmhjjdgglnaaDoorMark
import Derived.Test.YtfbgmhjjdgglnaaDoorApp
import Derived.Test.YtfbgmhjjdgglnaaDoorMarkV
import Derived.Test.YtfbgmhjjdgglnaaDoorLawVal
import Derived.Test.YtfbgmhjjdgglnaaDoorCopy
import Derived.Test.YtfbgmhjjdgglnaaDoorPathAt
import Derived.Test.YtfbgmhjjdgglnaaDoorPathAt2
import Derived.Test.YtfbgmhjjdgglnaaDoorSame2
import Derived.Test.YtfbgmhjjdgglnaaDoorOnce
import Derived.Test.YtfbgmhjjdgglnaaDoorShelf
import Derived.Test.YtfbgmhjjdgglnaaDoorNum
import Derived.Test.YtfbgmhjjdgglnaaDoorPText
import Derived.Test.YtfbgmhjjdgglnaaDoorPText2
import Derived.Test.YtfbgmhjjdgglnaaDoorNames
namespace Go.Proofs.YtfbgmhjjdgglnaaDoor
open Go.ChangeShapes Go.WideShapes Go.ChangeAt Go.RowKit Go.Joins
set_option linter.unusedVariables false
set_option maxRecDepth 100000
def wordT (v : T) (x : Lo) : ByteArray := (lossNm x.1 ++ ⟨#[32]⟩) ++ pathT v ⟨#[36]⟩ x.2
def joinT (xs : List ByteArray) : ByteArray := ⟨(Lib.join (xs.map (·.data.toList)) (⟨#[59, 32]⟩ : ByteArray).data.toList).toArray⟩
def lossT (v : T) (l : List Lo) : ByteArray := if l.length = 0 then ⟨#[45]⟩ else joinT (l.map (wordT v))
theorem joinT_nil : joinT [] = ⟨#[]⟩ := rfl
theorem joinT_one (y : ByteArray) : joinT [y] = y := by
  unfold joinT; rw [List.map_cons, List.map_nil, Lib.join_one, Lib.mk_data]
theorem joinT_snoc (xs : List ByteArray) (y : ByteArray) (h : xs ≠ []) : joinT (xs ++ [y]) = (joinT xs ++ ⟨#[59, 32]⟩) ++ y := by
  cases xs with
  | nil => exact absurd rfl h
  | cons x r =>
    apply ByteArray.ext
    apply Array.ext'
    simp [joinT, Lib.join_cons, Lib.joinTail, ByteArray.data_append]
theorem joinT_size (xs : List ByteArray) (C : Nat) (h : ∀ x ∈ xs, x.size ≤ C) : (joinT xs).size ≤ xs.length * (C + 2) := by
  cases xs with
  | nil => simp [joinT, Lib.join_nil, ByteArray.size]
  | cons x r =>
    have e : (joinT (x :: r)).size = (Lib.join ((x :: r).map (·.data.toList)) (⟨#[59, 32]⟩ : ByteArray).data.toList).length := by simp [joinT, ByteArray.size]
    have hl : ∀ ys : List ByteArray, (∀ x ∈ ys, x.size ≤ C) → Lib.lens (ys.map (·.data.toList)) ≤ ys.length * C := by
      intro ys
      induction ys with
      | nil => intro _; simp [Lib.lens]
      | cons a t ih =>
        intro hh
        have h1 := ih (fun z hz => hh z (by simp [hz]))
        have h2 := hh a (by simp)
        have h3 := Lib.size_eq a
        simp only [Lib.lens, List.map_cons, List.sum_cons, List.length_cons, Nat.add_mul, Nat.one_mul] at h1 ⊢
        omega
    have h1 := hl (x :: r) h
    rw [e, List.map_cons, Lib.join_length]
    rw [List.map_cons] at h1
    simp only [List.length_cons, List.length_map, Nat.add_mul, Nat.one_mul, Nat.mul_add] at h1 ⊢
    have h2 : (⟨#[59, 32]⟩ : ByteArray).data.toList.length = 2 := rfl
    simp only [List.length_cons, List.length_nil] at h2 ⊢
    omega
theorem lossNm_size (n : Int) : (lossNm n).size ≤ 5 := by
  unfold lossNm
  repeat (split; · (first | decide | exact (by decide : _ ≤ 5)))
  decide
theorem Rd.i64 {w : World} {B : Nat} {a : Option Addr} {cap : Nat} {p : List St} (h : Rd EStep 2 w B a cap p) : ∀ s ∈ p, I64 s.1 := by
  intro s hs
  obtain ⟨i, hi, rfl⟩ := List.mem_iff_getElem.1 hs
  obtain ⟨_, _, _, _, _, _, h⟩ := h.step i hi
  exact h
theorem wordT_size (v : T) (x : Lo) (h : ∀ s ∈ x.2, I64 s.1) (hz : T.szL v.l ≤ 1048576) : (wordT v x).size ≤ 25165831 := by
  have h1 := pathT_size x.2 h v ⟨#[36]⟩
  have h2 := lossNm_size x.1
  have h3 : (⟨#[36]⟩ : ByteArray).size = 1 := rfl
  have h4 : (⟨#[32]⟩ : ByteArray).size = 1 := rfl
  unfold wordT
  rw [ByteArray.size_append, ByteArray.size_append]
  omega
end Go.Proofs.YtfbgmhjjdgglnaaDoor
