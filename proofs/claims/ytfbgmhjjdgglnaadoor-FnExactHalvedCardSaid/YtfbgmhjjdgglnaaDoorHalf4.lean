/- Contracts and lemmas for the proofs of this seat: Half4. No condition beyond those stated. -/
import Derived.Test.YtfbgmhjjdgglnaaDoorRows
import Derived.WalkKit
import Derived.ProofKit
import Derived.OpenShut
import Derived.Handy
import Derived.Lib.Hide
import Derived.Lib.SmallJoins
import Derived.Laws.BytesArg
import Derived.Lib.ItoaNum
import Derived.Lib.ItoaLen
import Derived.Lib.AppendIntMem
import Derived.Deep.RegionHeld3
import Derived.Test.YtfbgmhjjdgglnaaDoorBase
import Derived.Test.YtfbgmhjjdgglnaaDoorGen
import Derived.Test.YtfbgmhjjdgglnaaDoorKit
import Derived.Test.YtfbgmhjjdgglnaaDoorMark
import Derived.Test.YtfbgmhjjdgglnaaDoorApp
import Derived.Test.YtfbgmhjjdgglnaaDoorMarkV
import Derived.Test.YtfbgmhjjdgglnaaDoorLawVal
import Derived.Test.YtfbgmhjjdgglnaaDoorCopy
import Derived.Test.YtfbgmhjjdgglnaaDoorPathAt
import Derived.Test.YtfbgmhjjdgglnaaDoorPathAt2
import Derived.Test.YtfbgmhjjdgglnaaDoorShelf
import Derived.Test.YtfbgmhjjdgglnaaDoorNum
import Derived.Test.YtfbgmhjjdgglnaaDoorTextF
import Derived.Test.YtfbgmhjjdgglnaaDoorValF
import Derived.Test.YtfbgmhjjdgglnaaDoorValF2
import Derived.Test.YtfbgmhjjdgglnaaDoorValF3
import Derived.Test.YtfbgmhjjdgglnaaDoorDecF
import Derived.Test.YtfbgmhjjdgglnaaDoorDecF2
import Derived.Test.YtfbgmhjjdgglnaaDoorFltD
import Derived.Test.YtfbgmhjjdgglnaaDoorNearP
import Derived.Test.YtfbgmhjjdgglnaaDoorFltN
import Derived.Test.YtfbgmhjjdgglnaaDoorDiv
import Derived.Test.YtfbgmhjjdgglnaaDoorDiv2
import Derived.Test.YtfbgmhjjdgglnaaDoorNear1
import Derived.Test.YtfbgmhjjdgglnaaDoorNear3
import Derived.Test.YtfbgmhjjdgglnaaDoorNear2
import Derived.Test.YtfbgmhjjdgglnaaDoorNear4
import Derived.Test.YtfbgmhjjdgglnaaDoorHalf1
import Derived.Test.YtfbgmhjjdgglnaaDoorHalf2
import Derived.Test.YtfbgmhjjdgglnaaDoorHalf3
namespace Go.Proofs.YtfbgmhjjdgglnaaDoor
open Go.ChangeShapes Go.WideShapes Go.ChangeAt Go.RowKit Go.Joins
set_option linter.unusedVariables false
set_option maxRecDepth 100000
/-- What the reference answers: the tree (the empty one, if a number has no nearest) and whether it has one. -/
def hT (t : T) : T := (halfT t).getD (.mk 0 0 0 ⟨#[]⟩ [])
def hBl (t : T) : Bool := (halfT t).isSome
theorem hT_wf {t : T} (h : Wf t) : Wf (hT t) := by
  unfold hT
  cases hh : halfT t with
  | none => exact ⟨⟨by simp [T.k], by simp [T.k]⟩, ⟨by simp [T.n], by simp [T.n]⟩, ⟨by simp [T.x], by simp [T.x]⟩, by simp [T.s, ByteArray.size, maxLen]⟩
  | some t' => exact halfT_wf h hh
theorem spec_HalvedA (t : T) (a : Option Addr) (cap B : Nat) (w : World) (hr : R w B a cap t.l) (hwf : Wf t) (hct : T.count t ≤ 1073741824) (hBB : B ≤ w.heap.size) :
    Calls Tryd.prog 18 #[.agg (cV t a cap)] w fun e w' => ∃ a' cap', e = .returned (.tuple #[.agg (cV (hT t) a' cap'), .bool (hBl t)]) ∧ Own w' w.heap.size w'.heap.size a' cap' (hT t).l ∧ Below w.heap.size w w' := by
  refine (spec_Halved t a cap B w hr hwf hBB hct).mono ?_
  rintro e w' ⟨h, hb⟩
  rcases h with ⟨h1, rfl⟩ | ⟨t', h1, a', cap', rfl, ho⟩
  · refine ⟨none, 0, ?_, ?_, hb⟩
    · unfold hT hBl; rw [h1]; rfl
    · unfold hT; rw [h1]; exact Own.nil _ _ _ _ _ (by simp [maxLen])
  · refine ⟨a', cap', ?_, ?_, hb⟩
    · unfold hT hBl; rw [h1]; rfl
    · unfold hT; rw [h1]; exact ho
theorem impl_HalvedA (t : T) (a : Option Addr) (cap B : Nat) (w : World) (hr : R w B a cap t.l) (hwf : Wf t) (hct : T.count t ≤ 1073741824) (hBB : B ≤ w.heap.size) (htab : Lib.TabBelow Tryd.prog w.heap.size w "internal/strconv.uint64pow10" .u64 Lib.pow10Tab) :
    Calls Tryd.prog 19 #[.agg (cV t a cap)] w fun e w' => ∃ a' cap', e = .returned (.tuple #[.agg (cV (hT t) a' cap'), .bool (hBl t)]) ∧ Own w' w.heap.size w'.heap.size a' cap' (hT t).l ∧ Below w.heap.size w w' := by
  refine (impl_Halved t a cap B w hr hwf hBB hct htab).mono ?_
  rintro e w' ⟨h, hb⟩
  rcases h with ⟨h1, rfl⟩ | ⟨t', h1, a', cap', rfl, ho⟩
  · refine ⟨none, 0, ?_, ?_, hb⟩
    · unfold hT hBl; rw [h1]; rfl
    · unfold hT; rw [h1]; exact Own.nil _ _ _ _ _ (by simp [maxLen])
  · refine ⟨a', cap', ?_, ?_, hb⟩
    · unfold hT hBl; rw [h1]; rfl
    · unfold hT; rw [h1]; exact ho
theorem halfTs_count (l : List T) (H : ∀ t ∈ l, ∀ t', halfT t = some t' → T.count t' ≤ T.count t) : ∀ r, halfTs l = some r → T.countL r ≤ T.countL l := by
  induction l with
  | nil => intro r h; simp [halfTs] at h; subst h; exact Nat.le_refl _
  | cons t l ih =>
    intro r h
    rw [halfTs] at h
    cases h1 : halfT t with
    | none => rw [h1] at h; cases h
    | some a =>
      cases h2 : halfTs l with
      | none => rw [h1, h2] at h; cases h
      | some b =>
        rw [h1, h2] at h
        injection h with h
        subst h
        have e1 := H t (List.mem_cons_self ..) a h1
        have e2 := ih (fun u hu => H u (List.mem_cons_of_mem _ hu)) b h2
        simp only [T.countL]
        omega
theorem halfT_count : ∀ t : T, ∀ t', halfT t = some t' → T.count t' ≤ T.count t := by
  intro t
  induction t using T.ind with
  | h k n x s l ih =>
    intro t' h
    rw [halfT] at h
    by_cases hk : k = 3 ∨ k = 6
    · rw [if_pos hk] at h
      by_cases ho : (nearD n x).2 = true
      · rw [if_pos ho] at h
        injection h with h
        subst h
        simp only [T.count, T.countL]; omega
      · rw [if_neg ho] at h; cases h
    · rw [if_neg hk] at h
      cases h2 : halfTs l with
      | none => rw [h2] at h; cases h
      | some r =>
        rw [h2] at h
        injection h with h
        subst h
        have := halfTs_count l ih r h2
        simp only [T.count]; omega
theorem hT_sz (t : T) : T.countL (hT t).l ≤ T.sz t := by
  have h2 := T.countL_le_szL t
  have h3 : T.count (hT t) = T.countL (hT t).l + 1 := by cases hT t; simp only [T.count, T.l]
  have h1 : T.count (hT t) ≤ T.count t := by
    unfold hT
    cases hh : halfT t with
    | none =>
      have : 1 ≤ T.count t := by cases t; simp only [T.count]; omega
      simp only [Option.getD, T.count, T.countL]; omega
    | some t' => exact halfT_count t t' hh
  omega
theorem hcountL_le_sz (t : T) : T.countL t.l ≤ T.sz t := by
  have h2 := T.countL_le_szL t
  have h3 : T.count t = T.countL t.l + 1 := by cases t; simp only [T.count, T.l]
  omega
end Go.Proofs.YtfbgmhjjdgglnaaDoor
