/- Contracts and lemmas for the proofs of this seat: WriA. No condition beyond those stated. -/
import Derived.Test.YtfbgmhjjdgglnaaDoorRows
import Derived.WalkKit
import Derived.ProofKit
import Derived.OpenShut
import Derived.Handy
import Derived.Lib.Hide
import Derived.Lib.SmallJoins
import Derived.Laws.BytesArg
import Derived.Deep.RegionHeld3
import Derived.Deep.AppendLies
import Derived.Deep.QuietTactic
import Derived.BigQuiet
import Derived.Lib.AppendStr
import Derived.Lib.ValidAsc
import Derived.Lib.ItoaLen
import Derived.Test.YtfbgmhjjdgglnaaDoorBase
import Derived.Test.YtfbgmhjjdgglnaaDoorGen
import Derived.Test.YtfbgmhjjdgglnaaDoorKit
import Derived.Test.YtfbgmhjjdgglnaaDoorMark
import Derived.Test.YtfbgmhjjdgglnaaDoorApp
import Derived.Test.YtfbgmhjjdgglnaaDoorMarkV
import Derived.Test.YtfbgmhjjdgglnaaDoorLawVal
import Derived.Test.YtfbgmhjjdgglnaaDoorCopy
import Derived.Test.YtfbgmhjjdgglnaaDoorPathAt
import Derived.Test.YtfbgmhjjdgglnaaDoorPathAt2
import Derived.Test.YtfbgmhjjdgglnaaDoorSame2
import Derived.Test.YtfbgmhjjdgglnaaDoorOnce
import Derived.Test.YtfbgmhjjdgglnaaDoorKeepX
import Derived.Test.YtfbgmhjjdgglnaaDoorAppX
import Derived.Test.YtfbgmhjjdgglnaaDoorAppS
import Derived.Test.YtfbgmhjjdgglnaaDoorNamesT
import Derived.Test.YtfbgmhjjdgglnaaDoorShelf
import Derived.Test.YtfbgmhjjdgglnaaDoorNum
import Derived.Test.YtfbgmhjjdgglnaaDoorPText
import Derived.Test.YtfbgmhjjdgglnaaDoorTextF
import Derived.Test.YtfbgmhjjdgglnaaDoorValF
import Derived.Test.YtfbgmhjjdgglnaaDoorValF2
import Derived.Test.YtfbgmhjjdgglnaaDoorValF3
import Derived.Test.YtfbgmhjjdgglnaaDoorRune
import Derived.Test.YtfbgmhjjdgglnaaDoorRune2
import Derived.Test.YtfbgmhjjdgglnaaDoorOwnT
import Derived.Test.YtfbgmhjjdgglnaaDoorOwnS
import Derived.Test.YtfbgmhjjdgglnaaDoorEvery
import Derived.Test.YtfbgmhjjdgglnaaDoorHexT
import Derived.Test.YtfbgmhjjdgglnaaDoorPutR
import Derived.Test.YtfbgmhjjdgglnaaDoorEsc
import Derived.Test.YtfbgmhjjdgglnaaDoorQuo
import Derived.Test.YtfbgmhjjdgglnaaDoorDecF
import Derived.Test.YtfbgmhjjdgglnaaDoorDecF2
import Derived.Test.YtfbgmhjjdgglnaaDoorFltD
import Derived.Test.YtfbgmhjjdgglnaaDoorDecT
namespace Go.Proofs.YtfbgmhjjdgglnaaDoor
open Go.ChangeShapes Go.WideShapes Go.ChangeAt Go.RowKit Go.Joins
set_option linter.unusedVariables false
set_option maxRecDepth 100000
/-- A value without elements, as text. -/
def leafT (k n x : Int) (s : ByteArray) : ByteArray := if k = 2 then (if n = 1 then ⟨#[116, 114, 117, 101]⟩ else ⟨#[102, 97, 108, 115, 101]⟩) else if k = 3 then numT n else if k = 6 then decTx n (-x).toNat else if k = 4 then fltTx n x else if k = 7 then quoteT s else ⟨#[110, 117, 108, 108]⟩
def sepT (mp : Bool) (i : Nat) : ByteArray := if i = 0 then ⟨#[]⟩ else if mp = true ∧ i % 2 = 1 then ⟨#[58]⟩ else ⟨#[44]⟩
mutual
def writeT : T → ByteArray
  | .mk k n x s l => if k = 9 then (⟨#[91]⟩ ++ writesT false 0 l) ++ ⟨#[93]⟩ else if k = 10 then (⟨#[123]⟩ ++ writesT true 0 l) ++ ⟨#[125]⟩ else leafT k n x s
def writesT (mp : Bool) : Nat → List T → ByteArray
  | _, [] => ⟨#[]⟩
  | i, t :: r => (sepT mp i ++ writeT t) ++ writesT mp (i + 1) r
end
theorem writesT_succ (mp : Bool) : ∀ (l : List T) (i j : Nat) (h : j < l.length), writesT mp i (l.take (j + 1)) = writesT mp i (l.take j) ++ (sepT mp (i + j) ++ writeT l[j]) := by
  intro l
  induction l with
  | nil => intro i j h; simp at h
  | cons t r ih =>
    intro i j h
    cases j with
    | zero => apply ByteArray.ext; simp [writesT, ByteArray.data_append]
    | succ j =>
      have := ih (i + 1) j (by simpa using h)
      simp only [List.take_succ_cons, writesT, List.getElem_cons_succ]
      rw [this, show i + 1 + j = i + (j + 1) from by omega]
      simp only [ByteArray.append_assoc]
/-- What can be written. -/
def wrP (t : T) : Prop := (t.k = 1 ∨ t.k = 2 ∨ t.k = 4 ∨ t.k = 7 ∨ t.k = 9 ∨ t.k = 10) ∨ (t.k = 3 ∧ -1000000000000000 ≤ t.n ∧ t.n ≤ 1000000000000000) ∨ (t.k = 6 ∧ -16 ≤ t.x ∧ t.x ≤ 0)
instance (t : T) : Decidable (wrP t) := by unfold wrP; exact inferInstance
theorem allB_mono {p q : T → Bool} (h : ∀ t, p t = true → q t = true) : ∀ t, allB p t = true → allB q t = true := by
  intro t
  induction t using T.ind with
  | h k n x s l ih =>
    rw [allB_eq, allB_eq]
    simp only [Bool.and_eq_true, List.all_eq_true, T.l]
    rintro ⟨h1, h2⟩
    exact ⟨h _ h1, fun t ht => ih t ht (h2 t ht)⟩
theorem allB_both {p q : T → Bool} : ∀ t, allB p t = true → allB q t = true → allB (fun t => p t && q t) t = true := by
  intro t
  induction t using T.ind with
  | h k n x s l ih =>
    rw [allB_eq, allB_eq, allB_eq]
    simp only [Bool.and_eq_true, List.all_eq_true, T.l]
    rintro ⟨h1, h2⟩ ⟨h3, h4⟩
    exact ⟨⟨h1, h3⟩, fun t ht => ih t ht (h2 t ht) (h4 t ht)⟩
theorem decTx_size (n : Int) (m : Nat) : (decTx n m).size ≤ 200 := by
  unfold decTx
  by_cases h : decOk n (-(m : Int))
  · have hd : digN n ≤ 20 := by
      unfold decOk at h
      rcases h with ⟨_, h1, h2⟩ | ⟨_, _, h1, _⟩
      · exact digN_le n ⟨by omega, by omega⟩
      · omega
    have h1 := digT_size n
    have h2 := padZ_size 60 m (digT n)
    have z1 : (⟨#[45]⟩ : ByteArray).size = 1 := rfl
    have z2 : (⟨#[46]⟩ : ByteArray).size = 1 := rfl
    rw [if_neg (fun hn => hn h)]
    by_cases h0 : m = 0
    · rw [if_pos h0]
      by_cases hn : n < 0
      · rw [numT_neg hn, ByteArray.size_append]; omega
      · rw [numT_pos hn]; omega
    · rw [if_neg h0]
      unfold decBody
      split
      · simp only [ByteArray.size_append, ByteArray.size_extract]; omega
      · simp only [ByteArray.size_append, ByteArray.size_extract]; omega
  · rw [if_pos h]; exact Nat.zero_le _
theorem fltTx_size (m e : Int) : (fltTx m e).size ≤ 200 := by
  unfold fltTx
  split
  · exact decTx_size _ _
  · exact Nat.zero_le _
theorem quoteT_size (s : ByteArray) : (quoteT s).size ≤ 2 + 12 * s.size := by
  unfold quoteT
  split
  · have h1 : ∀ (l : List Int) j, (escF l j).size ≤ 12 * j := by
      intro l j
      induction j with
      | zero => exact Nat.le_refl _
      | succ j ih => rw [escF, ByteArray.size_append]; have := escT_size (l.getD j 0); omega
    have h2 := h1 (runesT s) (runesT s).length
    have h3 := runesG_len s.size s.data.toList
    have z1 : (⟨#[34]⟩ : ByteArray).size = 1 := rfl
    rw [ByteArray.size_append, ByteArray.size_append]
    unfold runesT at *
    omega
  · exact Nat.zero_le _
theorem leafT_size (t : T) (h : wrP t) : (leafT t.k t.n t.x t.s).size ≤ 200 + 12 * t.s.size := by
  unfold leafT
  split
  · split
    · exact Nat.le_trans (show (4 : Nat) ≤ 200 by omega) (Nat.le_add_right _ _)
    · exact Nat.le_trans (show (5 : Nat) ≤ 200 by omega) (Nat.le_add_right _ _)
  · split
    · have := numT_size (n := t.n) (by unfold wrP at h; exact ⟨by omega, by omega⟩); omega
    · split
      · have := decTx_size t.n (-t.x).toNat; omega
      · split
        · have := fltTx_size t.n t.x; omega
        · split
          · have := quoteT_size t.s; omega
          · exact Nat.le_trans (show (4 : Nat) ≤ 200 by omega) (Nat.le_add_right _ _)
theorem sepT_size (mp : Bool) (i : Nat) : (sepT mp i).size ≤ 1 := by
  unfold sepT
  split
  · exact Nat.zero_le _
  · split
    · exact Nat.le_refl _
    · exact Nat.le_refl _
theorem writeT_size : ∀ t : T, allB (fun t => decide (wrP t)) t = true → (writeT t).size + 9 ≤ 300 * (1 + T.sz t) := by
  intro t
  induction t using T.ind with
  | h k n x s l ih =>
    intro h
    rw [allB_eq] at h
    simp only [Bool.and_eq_true, List.all_eq_true, T.l, decide_eq_true_eq] at h
    obtain ⟨h1, h2⟩ := h
    have key : ∀ (mp : Bool) (r : List T) (i : Nat), (∀ t ∈ r, t ∈ l) → (writesT mp i r).size ≤ 300 * T.szL r := by
      intro mp r
      induction r with
      | nil => intro i _; exact Nat.zero_le _
      | cons t r ihr =>
        intro i hm
        have a1 := ihr (i + 1) (fun t ht => hm t (List.mem_cons_of_mem _ ht))
        have a2 := ih t (hm t (List.mem_cons_self ..)) (h2 t (hm t (List.mem_cons_self ..)))
        have a3 := sepT_size mp i
        simp only [writesT, ByteArray.size_append, T.szL]
        omega
    have e1 := key false l 0 (fun _ h => h)
    have e2 := key true l 0 (fun _ h => h)
    have e3 := leafT_size (.mk k n x s l) h1
    have z1 : (⟨#[91]⟩ : ByteArray).size = 1 := rfl
    have z2 : (⟨#[93]⟩ : ByteArray).size = 1 := rfl
    have z3 : (⟨#[123]⟩ : ByteArray).size = 1 := rfl
    have z4 : (⟨#[125]⟩ : ByteArray).size = 1 := rfl
    simp only [T.k, T.n, T.x, T.s] at e3
    rw [writeT, sz_of]
    split
    · rw [ByteArray.size_append, ByteArray.size_append]; omega
    · split
      · rw [ByteArray.size_append, ByteArray.size_append]; omega
      · omega
theorem writesT_size (mp : Bool) (l : List T) (h : ∀ t ∈ l, allB (fun t => decide (wrP t)) t = true) : ∀ (r : List T) (i : Nat), (∀ t ∈ r, t ∈ l) → (writesT mp i r).size ≤ 300 * T.szL r := by
  intro r
  induction r with
  | nil => intro i _; exact Nat.zero_le _
  | cons t r ihr =>
    intro i hm
    have a1 := ihr (i + 1) (fun t ht => hm t (List.mem_cons_of_mem _ ht))
    have a2 := writeT_size t (h t (hm t (List.mem_cons_self ..)))
    have a3 := sepT_size mp i
    simp only [writesT, ByteArray.size_append, T.szL]
    omega
end Go.Proofs.YtfbgmhjjdgglnaaDoor
