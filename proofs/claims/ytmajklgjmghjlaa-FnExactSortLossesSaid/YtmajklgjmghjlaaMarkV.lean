/- Contracts and lemmas for the proofs of this seat: MarkV. No condition beyond those stated. -/
import Derived.Test.YtmajklgjmghjlaaRows
import Derived.Deep.AppendLies
import Derived.WalkKit
import Derived.ProofKit
import Derived.OpenShut
import Derived.Handy
import Derived.Lib.Hide
import Derived.Lib.SmallJoins
import Derived.Deep.QuietTactic
import Derived.BigQuiet
import Derived.Laws.BytesArg
import Derived.Deep.RegionHeld3
import Derived.Test.YtmajklgjmghjlaaBase
import Derived.Test.YtmajklgjmghjlaaGen
import Derived.Test.YtmajklgjmghjlaaKit
import Derived.Test.YtmajklgjmghjlaaMark
import Derived.Test.YtmajklgjmghjlaaApp
namespace Go.Proofs.Ytmajklgjmghjlaa
open Go.ChangeShapes Go.WideShapes Go.ChangeAt Go.RowKit Go.Joins
set_option linter.unusedVariables false
set_option maxRecDepth 100000
def mdig (k : Nat) (out : ByteArray) : ByteArray := if h : k = 0 then out else mdig (k / 10) (strOfNums [48 + (k : Int) % 10] ++ out)
termination_by k
decreasing_by omega
theorem mdig_zero (out : ByteArray) : mdig 0 out = out := by rw [mdig]; simp
theorem mdig_pos (k : Nat) (h : k ≠ 0) (out : ByteArray) : mdig k out = mdig (k / 10) (strOfNums [48 + (k : Int) % 10] ++ out) := by rw [mdig]; simp [h]
def mtxt (k : Int) : ByteArray := ⟨#[109]⟩ ++ mdig k.toNat ⟨#[]⟩
theorem mdig_size (k : Nat) : ∀ out : ByteArray, (mdig k out).size ≤ out.size + k := by
  induction k using Nat.strongRecOn with
  | ind k ih =>
    intro out
    by_cases h : k = 0
    · subst h; rw [mdig_zero]; omega
    · rw [mdig_pos k h]
      have := ih (k / 10) (by omega) (strOfNums [48 + (k : Int) % 10] ++ out)
      rw [ByteArray.size_append, strOfNums_size] at this
      simp at this
      omega
theorem mtxt_size (k : Int) : (mtxt k).size ≤ 1 + k.toNat := by
  unfold mtxt
  have := mdig_size k.toNat ⟨#[]⟩
  rw [ByteArray.size_append]
  have h1 : (⟨#[109]⟩ : ByteArray).size = 1 := rfl
  have h2 : (⟨#[]⟩ : ByteArray).size = 0 := rfl
  omega
theorem T.k_mk (a b c : Int) (s : ByteArray) (l : List T) : (T.mk a b c s l).k = a := rfl
theorem T.n_mk (a b c : Int) (s : ByteArray) (l : List T) : (T.mk a b c s l).n = b := rfl
theorem T.x_mk (a b c : Int) (s : ByteArray) (l : List T) : (T.mk a b c s l).x = c := rfl
theorem T.s_mk (a b c : Int) (s : ByteArray) (l : List T) : (T.mk a b c s l).s = s := rfl
theorem T.l_mk (a b c : Int) (s : ByteArray) (l : List T) : (T.mk a b c s l).l = l := rfl
theorem TR.row {w : World} {b : Nat} : ∀ {l : List T} {o : Nat} {F : List Nat}, TR w b o l F ↔ Row TV 5 w b o l F := by
  intro l
  induction l with
  | nil => intro o F; rw [TR]; exact Iff.rfl
  | cons t r ih =>
    intro o F
    rw [TR]
    constructor
    · rintro ⟨F1, F2, h, h1, h2⟩; exact ⟨F1, F2, h, h1, ih.1 h2⟩
    · rintro ⟨F1, F2, h, h1, h2⟩; exact ⟨F1, F2, h, h1, ih.2 h2⟩
theorem TL.sl {w : World} {a : Option Addr} {cap : Nat} {l : List T} {F : List Nat} : TL w a cap l F ↔ Sl TV 5 w a cap l F := by
  constructor
  · rintro ⟨h1, h2, h3, h4⟩
    refine ⟨h1, h2, h3, fun hne => ?_⟩
    obtain ⟨b, o, F', ha, hF, hr⟩ := h4 hne
    exact ⟨b, o, F', ha, hF, TR.row.1 hr⟩
  · rintro ⟨h1, h2, h3, h4⟩
    refine ⟨h1, h2, h3, fun hne => ?_⟩
    obtain ⟨b, o, F', ha, hF, hr⟩ := h4 hne
    exact ⟨b, o, F', ha, hF, TR.row.2 hr⟩
theorem TV.elem : Elem TV 5 := by
  refine ⟨by omega, ?_, ?_⟩
  · intro x w w' b o b' o' F h hc hF
    rw [← T.eta x, TV.iff] at h ⊢
    obtain ⟨h0, h1, h2, h3, i0, i1, i2, i3, a, cap, h4, hl⟩ := h
    refine ⟨(hc 0 (by omega)).trans h0, (hc 1 (by omega)).trans h1, (hc 2 (by omega)).trans h2, (hc 3 (by omega)).trans h3, i0, i1, i2, i3, a, cap, (hc 4 (by omega)).trans h4, hl.agree hF⟩
  · intro x w b o F h i hi
    rw [← T.eta x, TV.iff] at h
    obtain ⟨h0, h1, h2, h3, i0, i1, i2, i3, a, cap, h4, hl⟩ := h
    rcases (by omega : i = 0 ∨ i = 1 ∨ i = 2 ∨ i = 3 ∨ i = 4) with rfl | rfl | rfl | rfl | rfl
    · exact ⟨_, h0, rfl⟩
    · exact ⟨_, h1, rfl⟩
    · exact ⟨_, h2, rfl⟩
    · exact ⟨_, h3, rfl⟩
    · exact ⟨_, h4, rfl⟩
theorem R.rd {w : World} {B cap : Nat} {a : Option Addr} {l : List T} : R w B a cap l ↔ Rd TV 5 w B a cap l := by
  constructor
  · rintro ⟨F, h, k⟩; exact ⟨F, TL.sl.1 h, k⟩
  · rintro ⟨F, h, k⟩; exact ⟨F, TL.sl.2 h, k⟩
theorem Own.ow {w : World} {lo hi cap : Nat} {a : Option Addr} {l : List T} : Own w lo hi a cap l ↔ Ow TV 5 w lo hi a cap l := by
  constructor
  · rintro ⟨F, h, k⟩; exact ⟨F, TL.sl.1 h, k⟩
  · rintro ⟨F, h, k⟩; exact ⟨F, TL.sl.2 h, k⟩
/-! ### Marks on trees -/
mutual
def meT : T → Int → T | .mk _ _ _ _ l, k => .mk k (k + 1) (k + 1 + 1) (mtxt (k + 1 + 1 + 1)) (meTs l (k + 1 + 1 + 1 + 1))
def meTs : List T → Int → List T
  | [], _ => []
  | t :: r, k => meT t k :: meTs r (k + (4 * t.count : Nat))
end
def costT (t : T) : Nat := 4 * t.count
theorem meTs_eq (l : List T) : ∀ k, meTs l k = mkL meT costT l k := by
  induction l with
  | nil => intro k; simp only [meTs, mkL]
  | cons t r ih => intro k; simp only [meTs, mkL, costT, ih]
theorem meT_eq (t : T) (k : Int) : meT t k = .mk k (k + 1) (k + 1 + 1) (mtxt (k + 1 + 1 + 1)) (mkL meT costT t.l (k + 1 + 1 + 1 + 1)) := by
  cases t with | mk a b c d l => rw [meT, meTs_eq]; rfl
theorem costT_eq (t : T) : costT t = 4 + cL' costT t.l := by
  cases t with | mk a b c d l =>
  simp only [costT, T.count, T.l]
  have : ∀ l : List T, cL' costT l = 4 * T.countL l := by
    intro l; induction l with
    | nil => rfl
    | cons t r ih => simp only [cL', T.countL, ih, costT]; omega
  rw [this]; omega
theorem costTL (l : List T) : cL' costT l = 4 * T.countL l := by
  induction l with
  | nil => rfl
  | cons t r ih => simp only [cL', T.countL, ih, costT]; omega
theorem countL_le_szL (l : List T) : T.countL l ≤ T.szL l := by
  have := T.countL_le_szL (.mk 0 0 0 ⟨#[]⟩ l)
  simp only [T.count, T.sz] at this
  have h : (⟨#[]⟩ : ByteArray).size = 0 := rfl
  omega
theorem costTL_le (l : List T) : cL' costT l ≤ 4 * T.szL l := by rw [costTL]; have := countL_le_szL l; omega
end Go.Proofs.Ytmajklgjmghjlaa
