/- Texts of this proof, merged: NearP, FltN, Div. No condition beyond what each theorem states. -/
import Derived.Test.YtpifadjlbjifhaaGreatDoorRows
import Derived.WalkKit
import Derived.ProofKit
import Derived.Lib.Hide
import Derived.Lib.ItoaNum
import Derived.Test.YtpifadjlbjifhaaGreatDoorZF1
import Derived.Test.YtpifadjlbjifhaaGreatDoorZF5
import Derived.Test.YtpifadjlbjifhaaGreatDoorZF8
import Derived.OpenShut
import Derived.Handy
import Derived.Lib.SmallJoins
import Derived.Deep.RegionHeld3
import Derived.Test.YtpifadjlbjifhaaGreatDoorZF2
import Derived.Test.YtpifadjlbjifhaaGreatDoorZF3
import Derived.Test.YtpifadjlbjifhaaGreatDoorZF4
import Derived.Test.YtpifadjlbjifhaaGreatDoorShelf
import Derived.Test.YtpifadjlbjifhaaGreatDoorZF7
import Derived.Deep.QuietTactic
import Derived.BigQuiet
import Derived.Laws.Bits64b
import Derived.Laws.BitsLemmas
import Derived.Lib.Mul64
import Derived.Shelf.Bits.Mul64
set_option linter.unusedSimpArgs false
set_option linter.unnecessarySimpa false
namespace Go.Proofs.YtpifadjlbjifhaaGreatDoor
open Go.ChangeShapes Go.WideShapes Go.ChangeAt Go.RowKit Go.Joins
set_option linter.unusedVariables false
set_option maxRecDepth 100000
/-- A number without its factors of two, and the power of two then. -/
def stripE : Nat → Int → Int → Int × Int
  | 0, m, e => (m, e)
  | k + 1, m, e => if m.tmod 2 = 0 then stripE k (m.tdiv 2) (e + 1) else (m, e)
theorem stripE_no (k : Nat) (m e : Int) (h : m.tmod 2 ≠ 0) : stripE k m e = (m, e) := by
  cases k with
  | zero => rfl
  | succ k => rw [stripE, if_neg h]
theorem stripE_yes (k : Nat) (m e : Int) (hk : 0 < k) (h : m.tmod 2 = 0) : stripE k m e = stripE (k - 1) (m.tdiv 2) (e + 1) := by
  cases k with
  | zero => omega
  | succ k => rw [stripE, if_pos h]; rfl
theorem tdiv2_abs (m : Int) (h : m.tmod 2 = 0) : (m.tdiv 2).natAbs * 2 = m.natAbs ∧ m = m.tdiv 2 * 2 := by
  have h1 := Int.mul_tdiv_add_tmod m 2
  omega
theorem stripE_inv (k : Nat) : ∀ m e : Int, ∃ c : Nat, (stripE k m e).2 = e + c ∧ m = (stripE k m e).1 * 2 ^ c := by
  induction k with
  | zero => intro m e; exact ⟨0, by simp [stripE], by simp [stripE]⟩
  | succ k ih =>
    intro m e
    by_cases h : m.tmod 2 = 0
    · obtain ⟨c, h1, h2⟩ := ih (m.tdiv 2) (e + 1)
      rw [stripE, if_pos h]
      refine ⟨c + 1, by rw [h1]; omega, ?_⟩
      have h3 := (tdiv2_abs m h).2
      rw [Int.pow_succ, ← Int.mul_assoc, ← h2]
      exact h3
    · exact ⟨0, by rw [stripE, if_neg h]; simp, by rw [stripE, if_neg h]; simp⟩
theorem stripE_box (k : Nat) : ∀ m e : Int, (stripE k m e).1.natAbs ≤ m.natAbs ∧ e ≤ (stripE k m e).2 ∧ (stripE k m e).2 ≤ e + k := by
  induction k with
  | zero => intro m e; simp [stripE]
  | succ k ih =>
    intro m e
    by_cases h : m.tmod 2 = 0
    · have := ih (m.tdiv 2) (e + 1)
      have h3 := (tdiv2_abs m h).1
      rw [stripE, if_pos h]; omega
    · rw [stripE, if_neg h]; simp; omega
def fltNewD (m e : Int) : (Int × Int) × Bool :=
  if ¬ ((-1000000000000000 ≤ m ∧ m ≤ 1000000000000000) ∧ (-100 ≤ e ∧ e ≤ 100)) then ((0, 0), false)
  else if m = 0 then ((0, 0), true)
  else if fltOk (stripE 64 m e).1 (stripE 64 m e).2 then (((stripE 64 m e).1, (stripE 64 m e).2), true) else ((0, 0), false)
theorem fltNewD_go (m e : Int) (h : (-1000000000000000 ≤ m ∧ m ≤ 1000000000000000) ∧ (-100 ≤ e ∧ e ≤ 100)) (h0 : m ≠ 0) :
    fltNewD m e = if fltOk (stripE 64 m e).1 (stripE 64 m e).2 then (((stripE 64 m e).1, (stripE 64 m e).2), true) else ((0, 0), false) := by
  unfold fltNewD; rw [if_neg (fun hh => hh h), if_neg h0]
theorem fltNewD_ok (m e : Int) : fltOk (fltNewD m e).1.1 (fltNewD m e).1.2 := by
  unfold fltNewD
  split
  · exact Or.inl ⟨rfl, rfl⟩
  split
  · exact Or.inl ⟨rfl, rfl⟩
  split
  · assumption
  · exact Or.inl ⟨rfl, rfl⟩
theorem fltNewD_no (m e : Int) (h : (fltNewD m e).2 = false) : fltNewD m e = ((0, 0), false) := by
  unfold fltNewD at *
  split
  · rfl
  rename_i h1
  rw [if_neg h1] at h
  split
  · rename_i h2; rw [if_pos h2] at h; simp at h
  rename_i h2
  rw [if_neg h2] at h
  split
  · rename_i h3; rw [if_pos h3] at h; simp at h
  · rfl
/-- A number of sixteen bits beyond the greatest power of two. -/
theorem flt_big (m e : Int) (c : Nat) (he : e = 30 + (c : Int)) (h0 : 65536 ≤ m.natAbs * 2 ^ c) : fltNewD m e = ((0, 0), false) := by
  unfold fltNewD
  split
  · rfl
  rename_i h1
  have hm0 : m ≠ 0 := by rintro rfl; simp at h0
  rw [if_neg hm0, if_neg]
  intro hok
  obtain ⟨k, h2, h3⟩ := stripE_inv 64 m e
  generalize (stripE 64 m e).1 = M at *
  generalize (stripE 64 m e).2 = E at *
  have hMabs : m.natAbs = M.natAbs * 2 ^ k := by rw [h3, Int.natAbs_mul, Int.natAbs_pow]; rfl
  rcases hok with ⟨hz, _⟩ | ⟨hM, hb, hodd, hE, h30⟩
  · rw [hz] at h3; simp at h3; exact hm0 h3
  · rcases h30 with h30 | ⟨h46, hlo, hhi⟩
    · have hk : k = 0 := by omega
      have hc : c = 0 := by omega
      subst hk; subst hc
      simp at h0 hMabs
      omega
    · have hE2 : (E - 30).toNat = c + k := by omega
      rw [hE2] at hlo hhi
      have e1 : (M * 2 ^ (c + k)).natAbs = m.natAbs * 2 ^ c := by
        rw [Int.natAbs_mul, Int.natAbs_pow, hMabs, Nat.mul_assoc, ← Nat.pow_add, Nat.add_comm k c]; rfl
      omega
/-- The whole part of a number in units of a power of two, and its rest. -/
def aQ (n p j : Nat) : Nat := n * 2 ^ (16 - j) / (p * 2 ^ (j - 16))
def aR (n p j : Nat) : Nat := n * 2 ^ (16 - j) % (p * 2 ^ (j - 16))
def nearUp (q r d : Nat) : Nat := if d < 2 * r ∨ (2 * r = d ∧ q % 2 = 1) then q + 1 else q
def nearJ (n p : Nat) : Nat → Nat → Nat
  | 0, j => j
  | f + 1, j => if aQ n p j ≤ 65535 then j else nearJ n p f (j + 1)
def sgn (n : Int) : Int := if n < 0 then -1 else 1
def nearM (n p : Nat) : Nat := nearUp (aQ n p (nearJ n p 60 0)) (aR n p (nearJ n p 60 0)) (p * 2 ^ (nearJ n p 60 0 - 16))
def nearD (n x : Int) : (Int × Int) × Bool :=
  if ¬ decOk n x then ((0, 0), false) else fltNewD (sgn n * (nearM n.natAbs (10 ^ (-x).toNat) : Nat)) ((nearJ n.natAbs (10 ^ (-x).toNat) 60 0 : Nat) - 16 : Int)
theorem aQ_half (n p j : Nat) : aQ n p (j + 1) = aQ n p j / 2 := by
  unfold aQ
  rw [Nat.div_div_eq_div_mul]
  by_cases h : j < 16
  · rw [show 16 - j = (16 - (j + 1)) + 1 from by omega, show j + 1 - 16 = 0 from by omega, show j - 16 = 0 from by omega]
    rw [Nat.pow_succ, ← Nat.mul_assoc, Nat.pow_zero, Nat.mul_one, Nat.mul_div_mul_right _ _ (by omega)]
  · rw [show 16 - j = 0 from by omega, show 16 - (j + 1) = 0 from by omega, show j + 1 - 16 = (j - 16) + 1 from by omega, Nat.pow_succ, Nat.mul_assoc]
theorem aQ_mono (n p j : Nat) : ∀ d, aQ n p (j + d) ≤ aQ n p j := by
  intro d
  induction d with
  | zero => exact Nat.le_refl _
  | succ d ih => rw [← Nat.add_assoc, aQ_half]; omega
theorem aQ_low (n p : Nat) (hn : n < 100000000000000000) (hp : 0 < p) : aQ n p 58 ≤ 65535 := by
  unfold aQ
  have : n * 2 ^ (16 - 58) / (p * 2 ^ (58 - 16)) < 65536 := by
    rw [Nat.div_lt_iff_lt_mul (Nat.mul_pos hp (Nat.two_pow_pos _))]
    have e : p * 2 ^ (58 - 16) = p * 4398046511104 := rfl
    have e2 : n * 2 ^ (16 - 58) = n * 1 := rfl
    rw [e, e2]
    omega
  omega
theorem nearJ_is (n p : Nat) : ∀ f j : Nat, aQ n p (j + f) ≤ 65535 → (∀ i, i < j → 65535 < aQ n p i) →
    nearJ n p f j ≤ j + f ∧ aQ n p (nearJ n p f j) ≤ 65535 ∧ ∀ i, i < nearJ n p f j → 65535 < aQ n p i := by
  intro f
  induction f with
  | zero => intro j h1 h2; exact ⟨Nat.le_refl _, h1, h2⟩
  | succ f ih =>
    intro j h1 h2
    by_cases h : aQ n p j ≤ 65535
    · rw [nearJ, if_pos h]; exact ⟨by omega, h, h2⟩
    · rw [nearJ, if_neg h]
      have := ih (j + 1) (by rw [show j + 1 + f = j + (f + 1) from by omega]; exact h1) (fun i hi => by
        by_cases hij : i = j
        · subst hij; omega
        · exact h2 i (by omega))
      exact ⟨by omega, this.2⟩
theorem near_iff (n p : Nat) (hn : n < 100000000000000000) (hp : 0 < p) (i : Nat) : i < nearJ n p 60 0 ↔ 65535 < aQ n p i := by
  have h60 : aQ n p (0 + 60) ≤ 65535 := Nat.le_trans (aQ_mono n p 58 2) (aQ_low n p hn hp)
  obtain ⟨h1, h2, h3⟩ := nearJ_is n p 60 0 h60 (fun i hi => by omega)
  refine ⟨h3 i, fun h => ?_⟩
  by_cases hi : i < nearJ n p 60 0
  · exact hi
  · have := aQ_mono n p (nearJ n p 60 0) (i - nearJ n p 60 0)
    rw [show nearJ n p 60 0 + (i - nearJ n p 60 0) = i from by omega] at this
    omega
theorem nearJ_le (n p : Nat) (hn : n < 100000000000000000) (hp : 0 < p) : nearJ n p 60 0 ≤ 58 := by
  have h := (near_iff n p hn hp 58).1
  have := aQ_low n p hn hp
  by_cases hc : 58 < nearJ n p 60 0
  · have := h hc; omega
  · omega
/-- The unit stays small as long as the number is not near. -/
theorem unit_small (n p j : Nat) (hn : n < 100000000000000000) (hp : 0 < p) (hp2 : p ≤ 10000000000000000) (hj : j ≤ nearJ n p 60 0) : p * 2 ^ (j - 16) ≤ 10000000000000000 := by
  by_cases h : j ≤ 16
  · rw [show j - 16 = 0 from by omega]; simpa using hp2
  · have h1 := (near_iff n p hn hp (j - 1)).1 (by omega)
    unfold aQ at h1
    rw [show 16 - (j - 1) = 0 from by omega] at h1
    have h2 : 65536 * (p * 2 ^ (j - 1 - 16)) ≤ n * 2 ^ 0 := by
      rw [← Nat.le_div_iff_mul_le (Nat.mul_pos hp (Nat.two_pow_pos _))]; exact h1
    rw [show j - 16 = (j - 1 - 16) + 1 from by omega, Nat.pow_succ, ← Nat.mul_assoc]
    generalize p * 2 ^ (j - 1 - 16) = x at *
    omega
theorem near_least (n p : Nat) (hn : n < 100000000000000000) (hp : 0 < p) (h0 : 0 < nearJ n p 60 0) : 32768 ≤ aQ n p (nearJ n p 60 0) := by
  have h1 := (near_iff n p hn hp (nearJ n p 60 0 - 1)).1 (by omega)
  have h2 := aQ_half n p (nearJ n p 60 0 - 1)
  rw [Nat.sub_add_cancel h0] at h2
  omega
theorem near_most (n p : Nat) (hn : n < 100000000000000000) (hp : 0 < p) : aQ n p (nearJ n p 60 0) ≤ 65535 := by
  have h := (near_iff n p hn hp (nearJ n p 60 0)).2
  by_cases hc : 65535 < aQ n p (nearJ n p 60 0)
  · have := h hc; omega
  · omega
theorem nearUp_box (q r d : Nat) : q ≤ nearUp q r d ∧ nearUp q r d ≤ q + 1 := by unfold nearUp; split <;> omega
theorem flt_shift (s e : Int) (hs : s = 1 ∨ s = -1) (he : -16 ≤ e ∧ e ≤ 60) : fltNewD (s * 65536) e = fltNewD (s * 32768) (e + 1) := by
  have h1 : stripE 64 65536 e = (1, e + 16) := by
    have : ∀ x : Int, stripE 64 65536 x = (1, x + 1 + 1 + 1 + 1 + 1 + 1 + 1 + 1 + 1 + 1 + 1 + 1 + 1 + 1 + 1 + 1) := fun x => rfl
    rw [this]; congr 1; omega
  have h2 : stripE 64 (-65536) e = (-1, e + 16) := by
    have : ∀ x : Int, stripE 64 (-65536) x = (-1, x + 1 + 1 + 1 + 1 + 1 + 1 + 1 + 1 + 1 + 1 + 1 + 1 + 1 + 1 + 1 + 1) := fun x => rfl
    rw [this]; congr 1; omega
  have h3 : stripE 64 32768 (e + 1) = (1, e + 16) := by
    have : ∀ x : Int, stripE 64 32768 x = (1, x + 1 + 1 + 1 + 1 + 1 + 1 + 1 + 1 + 1 + 1 + 1 + 1 + 1 + 1 + 1) := fun x => rfl
    rw [this]; congr 1; omega
  have h4 : stripE 64 (-32768) (e + 1) = (-1, e + 16) := by
    have : ∀ x : Int, stripE 64 (-32768) x = (-1, x + 1 + 1 + 1 + 1 + 1 + 1 + 1 + 1 + 1 + 1 + 1 + 1 + 1 + 1 + 1) := fun x => rfl
    rw [this]; congr 1; omega
  rcases hs with rfl | rfl
  · rw [show (1 : Int) * 65536 = 65536 from rfl, show (1 : Int) * 32768 = 32768 from rfl, fltNewD_go 65536 e (by omega) (by omega), fltNewD_go 32768 (e + 1) (by omega) (by omega), h1, h3]
  · rw [show (-1 : Int) * 65536 = -65536 from rfl, show (-1 : Int) * 32768 = -32768 from rfl, fltNewD_go (-65536) e (by omega) (by omega), fltNewD_go (-32768) (e + 1) (by omega) (by omega), h2, h4]
/-- The reference's end: it steps from 65536 to 32768 and bars the powers beyond 30. -/
theorem near_end (s e : Int) (m : Nat) (hs : s = 1 ∨ s = -1) (he : -16 ≤ e ∧ e ≤ 42) (hm : m ≤ 65536) (hlo : e = -16 ∨ 32768 ≤ m) :
    fltNewD (s * (m : Int)) e = if 30 < (if m = 65536 then e + 1 else e) then ((0, 0), false) else fltNewD (s * ((if m = 65536 then 32768 else m : Nat) : Int)) (if m = 65536 then e + 1 else e) := by
  have ha : (s * (m : Int)).natAbs = m := by rcases hs with rfl | rfl <;> omega
  by_cases h : m = 65536
  · subst h
    simp only [if_true]
    rw [show ((65536 : Nat) : Int) = 65536 from rfl, show ((32768 : Nat) : Int) = 32768 from rfl]
    by_cases h30 : 30 < e + 1
    · rw [if_pos h30]
      refine flt_big _ e (e - 30).toNat (by omega) ?_
      rw [show (65536 : Int) = ((65536 : Nat) : Int) from rfl, ha]
      exact Nat.le_mul_of_pos_right _ (Nat.two_pow_pos _)
    · rw [if_neg h30]; exact flt_shift s e hs (by omega)
  · simp only [if_neg h]
    by_cases h30 : 30 < e
    · rw [if_pos h30]
      refine flt_big _ e (e - 30).toNat (by omega) ?_
      rw [ha, show (e - 30).toNat = (e - 31).toNat + 1 from by omega, Nat.pow_succ]
      have := Nat.two_pow_pos (e - 31).toNat
      have : m * 1 ≤ m * 2 ^ (e - 31).toNat := Nat.mul_le_mul_left _ this
      rw [← Nat.mul_assoc]
      omega
    · rw [if_neg h30]
/-- The rest in a unit of a power of two that is not below one. -/
theorem rest_split (n p e : Nat) : n % (p * 2 ^ e) = (n / p % 2 ^ e) * p + n % p := by
  rw [Nat.mod_mul]; rw [Nat.add_comm, Nat.mul_comm p]
theorem half_split (n p e : Nat) (hp : 0 < p) (low top : Nat) (hl : low = n / p % 2 ^ (e + 1)) (ht : top = 2 ^ e) :
    (p * 2 ^ (e + 1) < 2 * (n % (p * 2 ^ (e + 1))) ↔ top < low ∨ (low = top ∧ 0 < n % p)) ∧ (2 * (n % (p * 2 ^ (e + 1))) = p * 2 ^ (e + 1) ↔ low = top ∧ n % p = 0) := by
  rw [rest_split, ← hl, Nat.pow_succ, ← ht, ← Nat.mul_assoc, Nat.mul_comm p top]
  have hr := Nat.mod_lt n hp
  generalize n % p = r at *
  clear hl ht
  rcases Nat.lt_trichotomy low top with h | h | h
  · have : (low + 1) * p ≤ top * p := Nat.mul_le_mul_right _ h
    rw [Nat.add_mul, Nat.one_mul] at this
    generalize low * p = x at *
    generalize top * p = y at *
    omega
  · subst h
    generalize low * p = x at *
    omega
  · have : (top + 1) * p ≤ low * p := Nat.mul_le_mul_right _ h
    rw [Nat.add_mul, Nat.one_mul] at this
    generalize low * p = x at *
    generalize top * p = y at *
    omega
theorem fltNewD_box (m e : Int) : (-65535 ≤ (fltNewD m e).1.1 ∧ (fltNewD m e).1.1 ≤ 65535) ∧ (-16 ≤ (fltNewD m e).1.2 ∧ (fltNewD m e).1.2 ≤ 46) := by
  have := fltOk_small (fltNewD_ok m e); omega
theorem nearD_box (n x : Int) : (-65535 ≤ (nearD n x).1.1 ∧ (nearD n x).1.1 ≤ 65535) ∧ (-16 ≤ (nearD n x).1.2 ∧ (nearD n x).1.2 ≤ 46) := by
  unfold nearD
  split
  · simp
  · exact fltNewD_box _ _
theorem decOk_n {n x : Int} (h : decOk n x) (hn : I64 n) : n.natAbs < 100000000000000000 ∧ -16 ≤ x ∧ x ≤ 0 := by
  rcases h with ⟨h1, h2, h3⟩ | ⟨h1, h2, h3, h4⟩
  · omega
  · have h5 := Lib.lt_pow_nDigits n.natAbs
    have h6 : 10 ^ Lib.nDigits n.natAbs ≤ 10 ^ 17 := Nat.pow_le_pow_right (by omega) h3
    have h7 : (10 : Nat) ^ 17 = 100000000000000000 := by decide
    omega
end Go.Proofs.YtpifadjlbjifhaaGreatDoor
namespace Go.Proofs.YtpifadjlbjifhaaGreatDoor
open Go.ChangeShapes Go.WideShapes Go.ChangeAt Go.RowKit Go.Joins
set_option linter.unusedVariables false
set_option maxRecDepth 100000
set_option maxHeartbeats 4000000 in
theorem spec_FltNew (m e : Int) (w : World) (hm : I64 m) (he : I64 e) :
    Calls Tryz.prog 164 #[.int .i64 m, .int .i64 e] w fun ee w' => ee = .returned (.tuple #[.agg (cF (fltNewD m e).1.1 (fltNewD m e).1.2), .bool (fltNewD m e).2]) ∧ Below w.heap.size w w' := by
  obtain ⟨hm0, hm1⟩ := hm
  obtain ⟨he0, he1⟩ := he
  have q0 := Is.new w (cF 0 0) 95
  have lg : w.heap.size < (w.alloc (.cells (cF 0 0) 95)).heap.size := by simp
  by_cases hA : -1000000000000000 ≤ m ∧ m ≤ 1000000000000000
  case neg =>
    have HD := Lib.hid (show fltNewD m e = ((0, 0), false) from if_pos (fun h => hA h.1))
    have DA := Lib.hid (show decide (-1000000000000000 ≤ m ∧ m ≤ 1000000000000000) = false from decide_eq_false hA)
    clear hA
    go_enter Tryz.func164, Tryz.ntmps164
    go_wp2_with (go_at_call 71; refine (spec_l1In _ _ _ _).mono ?_; rintro ee w2 ⟨rfl, hb⟩; rw [DA.out]; have p2 := q0.below hb lg; obtain ⟨z0, z1⟩ := p2.cells2b; have ff := fun i => p2.frozen i; have hl2 : w.heap.size < w2.heap.size := Nat.lt_of_lt_of_le lg hb.size; have HB2 := Lib.hid (below_step (below1 w _) hb (by simp)))
    obtain ⟨e0, e1⟩ := ((p2.set 0 (.int .i64 (0))).set 1 (.int .i64 (0))).cells2b
    refine bodyPost_ret (v := .tuple #[.agg #[.int .i64 (0), .int .i64 (0)], .bool false]) (by simp [results, Tryz.results164, go_sem, e0, e1]) rfl ⟨by rw [HD.out], HB2.out.trans ((below2s _ _ _ _).mono (Nat.le_refl _))⟩
  have DA := Lib.hid (show decide (-1000000000000000 ≤ m ∧ m ≤ 1000000000000000) = true from decide_eq_true hA)
  by_cases hE : -100 ≤ e ∧ e ≤ 100
  case neg =>
    have HD := Lib.hid (show fltNewD m e = ((0, 0), false) from if_pos (fun h => hE h.2))
    have DE := Lib.hid (show decide (-100 ≤ e ∧ e ≤ 100) = false from decide_eq_false hE)
    clear hA hE
    go_enter Tryz.func164, Tryz.ntmps164
    go_wp2_with fail
    refine (spec_l1In m _ _ _).mono ?_
    rintro ee w2 ⟨rfl, hb⟩
    rw [DA.out]
    have p2 := q0.below hb lg
    have hl2 : w.heap.size < w2.heap.size := Nat.lt_of_lt_of_le lg hb.size
    have HB2 := Lib.hid (below_step (below1 w _) hb (by simp))
    clear hb
    go_wp2_with fail
    refine (spec_l1In e _ _ _).mono ?_
    rintro ee w3 ⟨rfl, hb⟩
    rw [DE.out]
    have p3 := p2.below hb hl2
    obtain ⟨z0, z1⟩ := p3.cells2b
    have ff := fun i => p3.frozen i
    have hl3 : w.heap.size < w3.heap.size := Nat.lt_of_lt_of_le hl2 hb.size
    have HB3 := Lib.hid (HB2.out.trans (hb.mono HB2.out.size))
    clear hb
    go_wp2_with fail
    obtain ⟨e0, e1⟩ := ((p3.set 0 (.int .i64 (0))).set 1 (.int .i64 (0))).cells2b
    refine bodyPost_ret (v := .tuple #[.agg #[.int .i64 (0), .int .i64 (0)], .bool false]) (by simp [results, Tryz.results164, go_sem, e0, e1]) rfl ⟨by rw [HD.out], HB3.out.trans ((below2s _ _ _ _).mono (Nat.le_refl _))⟩
  have DE := Lib.hid (show decide (-100 ≤ e ∧ e ≤ 100) = true from decide_eq_true hE)
  by_cases h0 : m = 0
  · have HD := Lib.hid (show fltNewD m e = ((0, 0), true) from (if_neg (fun hh => hh ⟨hA, hE⟩)).trans (if_pos h0))
    subst h0
    clear hA hE
    go_enter Tryz.func164, Tryz.ntmps164
    go_wp2_with fail
    refine (spec_l1In 0 _ _ _).mono ?_
    rintro ee w2 ⟨rfl, hb⟩
    rw [DA.out]
    have p2 := q0.below hb lg
    have hl2 : w.heap.size < w2.heap.size := Nat.lt_of_lt_of_le lg hb.size
    have HB2 := Lib.hid (below_step (below1 w _) hb (by simp))
    clear hb
    go_wp2_with fail
    refine (spec_l1In e _ _ _).mono ?_
    rintro ee w3 ⟨rfl, hb⟩
    rw [DE.out]
    have p3 := p2.below hb hl2
    obtain ⟨z0, z1⟩ := p3.cells2b
    have ff := fun i => p3.frozen i
    have hl3 : w.heap.size < w3.heap.size := Nat.lt_of_lt_of_le hl2 hb.size
    have HB3 := Lib.hid (HB2.out.trans (hb.mono HB2.out.size))
    clear hb
    go_wp2_with fail
    obtain ⟨e0, e1⟩ := ((p3.set 0 (.int .i64 (0))).set 1 (.int .i64 (0))).cells2b
    refine bodyPost_ret (v := .tuple #[.agg #[.int .i64 (0), .int .i64 (0)], .bool true]) (by simp [results, Tryz.results164, go_sem, e0, e1]) rfl ⟨by rw [HD.out], HB3.out.trans ((below2s _ _ _ _).mono (Nat.le_refl _))⟩
  have HX := Lib.hid (fltNewD_go m e ⟨hA, hE⟩ h0)
  have h0' : (m == 0) = false := by simpa using h0
  have hpow : m.natAbs < 2 ^ 64 := by rw [show (2 : Nat) ^ 64 = 18446744073709551616 from by decide]; omega
  go_enter Tryz.func164, Tryz.ntmps164
  go_wp2_with fail
  refine (spec_l1In m _ _ _).mono ?_
  rintro ee w2 ⟨rfl, hb⟩
  rw [DA.out]
  have p2 := q0.below hb lg
  have hl2 : w.heap.size < w2.heap.size := Nat.lt_of_lt_of_le lg hb.size
  have HB2 := Lib.hid (below_step (below1 w _) hb (by simp))
  clear hb
  go_wp2_with fail
  refine (spec_l1In e _ _ _).mono ?_
  rintro ee w3 ⟨rfl, hb⟩
  rw [DE.out]
  have p3 := p2.below hb hl2
  have hl3 : w.heap.size < w3.heap.size := Nat.lt_of_lt_of_le hl2 hb.size
  have HB3 := Lib.hid (HB2.out.trans (hb.mono HB2.out.size))
  clear hb
  go_wp2_with fail
  go_loopw [0, 1] (fun nv xv wr => ∃ (n2 e2 : Int) (k : Nat), nv = .int .i64 n2 ∧ xv = .int .i64 e2 ∧ n2 ≠ 0 ∧ (-1000000000000000 ≤ n2 ∧ n2 ≤ 1000000000000000) ∧ (-100 ≤ e2 ∧ e2 + k = e + 64 ∧ e2 ≤ 164) ∧ Hid (n2.natAbs < 2 ^ k) ∧ Hid (stripE 64 m e = stripE k n2 e2) ∧ Below w3.heap.size w3 wr) (fun nv _ _ => (intOf nv).natAbs)
  case atStart => exact ⟨m, e, 64, rfl, rfl, h0, hA, by omega, Lib.hid hpow, Lib.hid rfl, Below.refl _ _⟩
  case round =>
    obtain ⟨n2, e2, k, rfl, rfl, hn0, ⟨hn2a, hn2b⟩, ⟨he2a, he2b, he2c⟩, HK, HS, hb⟩ := hrel
    have hbs := hb.size
    by_cases hg1 : n2.tmod 2 = 0
    · have ht := (tdiv2_abs n2 hg1).1
      have hk : 0 < k := by
        have := HK.out
        by_cases hz : k = 0
        · subst hz; simp at this; omega
        · omega
      have HE := Lib.hid (show stripE 64 m e = stripE (k - 1) (n2.tdiv 2) (e2 + 1) from HS.out.trans (stripE_yes k n2 e2 hk hg1))
      have HK2 := Lib.hid (show (n2.tdiv 2).natAbs < 2 ^ (k - 1) from by
        have h1 := HK.out
        rw [show k = (k - 1) + 1 from by omega, Nat.pow_succ] at h1; omega)
      have hg1' : (n2.tmod 2 == 0) = true := by simp [hg1]
      go_wp2_with fail
      go_roundw
      case rel => exact ⟨n2.tdiv 2, e2 + 1, k - 1, by first | rfl | go_num, by go_num, by omega, by omega, by omega, HK2, HE, hb⟩
      case measure => simp only [intOf]; first | omega | (simp; omega)
    · have HE := Lib.hid (show stripE 64 m e = (n2, e2) from HS.out.trans (stripE_no _ _ _ hg1))
      have HXX := Lib.hid (show fltNewD m e = if fltOk n2 e2 then ((n2, e2), true) else ((0, 0), false) from by rw [HX.out, HE.out])
      have hg1' : (n2.tmod 2 == 0) = false := by simpa using hg1
      have p4 := p3.below hb hl3
      have HB4 := Lib.hid (HB3.out.trans (hb.mono HB3.out.size))
      have hl4 : w.heap.size < wr.heap.size := by omega
      clear HX HE HS HK
      rename World => w4
      go_wp2_with fail
      have q6 := Is.new w4 (cF n2 e2) 95
      have p6 := p4.alloc (.cells (cF n2 e2) 95)
      refine (spec_FltOk n2 e2 _ ⟨by omega, by omega⟩ ⟨by omega, by omega⟩).mono ?_
      rintro ee w6 ⟨rfl, hb6⟩
      have q7 := q6.below hb6 (by simp)
      have p7 := p6.below hb6 (by simp; omega)
      obtain ⟨z0, z1⟩ := p7.cells2b
      have ff := fun i => p7.frozen i
      obtain ⟨y0, y1⟩ := q7.cells2b
      have HB6 := Lib.hid (HB4.out.trans ((below_step (below1 w4 _) hb6 (by simp)).mono (by omega)))
      have hl6 : w.heap.size < w6.heap.size := by have := hb6.size; simp at this; omega
      have hl7 : w4.heap.size < w6.heap.size := by have := hb6.size; simp at this; omega
      clear hb6
      by_cases hdo : fltOk n2 e2
      · have HD := Lib.hid (HXX.out.trans (if_pos hdo))
        rw [decide_eq_true hdo]
        clear hdo
        go_wp2_with fail
        obtain ⟨e0, e1⟩ := ((p7.set 0 (.int .i64 (n2))).set 1 (.int .i64 e2)).cells2b
        refine bodyPost_ret (v := .tuple #[.agg #[.int .i64 (n2), .int .i64 e2], .bool true]) (by simp [results, Tryz.results164, go_sem, e0, e1]) rfl ⟨by rw [HD.out], HB6.out.trans ((below2s _ _ _ _).mono (Nat.le_refl _))⟩
      · have HD := Lib.hid (HXX.out.trans (if_neg hdo))
        rw [decide_eq_false hdo]
        clear hdo
        go_wp2_with fail
        obtain ⟨e0, e1⟩ := ((p7.set 0 (.int .i64 (0))).set 1 (.int .i64 (0))).cells2b
        refine bodyPost_ret (v := .tuple #[.agg #[.int .i64 (0), .int .i64 (0)], .bool false]) (by simp [results, Tryz.results164, go_sem, e0, e1]) rfl ⟨by rw [HD.out], HB6.out.trans ((below2s _ _ _ _).mono (Nat.le_refl _))⟩
set_option maxHeartbeats 4000000 in
theorem impl_FltNew (m e : Int) (w : World) (hm : I64 m) (he : I64 e) :
    Calls Tryz.prog 160 #[.int .i64 m, .int .i64 e] w fun ee w' => ee = .returned (.tuple #[.agg (cF (fltNewD m e).1.1 (fltNewD m e).1.2), .bool (fltNewD m e).2]) ∧ Below w.heap.size w w' := by
  obtain ⟨hm0, hm1⟩ := hm
  obtain ⟨he0, he1⟩ := he
  have q0 := Is.new w (cF 0 0) 95
  have lg : w.heap.size < (w.alloc (.cells (cF 0 0) 95)).heap.size := by simp
  by_cases hA : -1000000000000000 ≤ m ∧ m ≤ 1000000000000000
  case neg =>
    have HD := Lib.hid (show fltNewD m e = ((0, 0), false) from if_pos (fun h => hA h.1))
    have DA := Lib.hid (show decide (-1000000000000000 ≤ m ∧ m ≤ 1000000000000000) = false from decide_eq_false hA)
    clear hA
    go_enter Tryz.func160, Tryz.ntmps160
    go_wp2_with (go_at_call 77; refine (impl_within _ _ _ _).mono ?_; rintro ee w2 ⟨rfl, hb⟩; rw [DA.out]; have p2 := q0.below hb lg; obtain ⟨z0, z1⟩ := p2.cells2b; have ff := fun i => p2.frozen i; have hl2 : w.heap.size < w2.heap.size := Nat.lt_of_lt_of_le lg hb.size; have HB2 := Lib.hid (below_step (below1 w _) hb (by simp)))
    obtain ⟨e0, e1⟩ := ((p2.set 0 (.int .i64 (0))).set 1 (.int .i64 (0))).cells2b
    refine bodyPost_ret (v := .tuple #[.agg #[.int .i64 (0), .int .i64 (0)], .bool false]) (by simp [results, Tryz.results160, go_sem, e0, e1]) rfl ⟨by rw [HD.out], HB2.out.trans ((below2s _ _ _ _).mono (Nat.le_refl _))⟩
  have DA := Lib.hid (show decide (-1000000000000000 ≤ m ∧ m ≤ 1000000000000000) = true from decide_eq_true hA)
  by_cases hE : -100 ≤ e ∧ e ≤ 100
  case neg =>
    have HD := Lib.hid (show fltNewD m e = ((0, 0), false) from if_pos (fun h => hE h.2))
    have DE := Lib.hid (show decide (-100 ≤ e ∧ e ≤ 100) = false from decide_eq_false hE)
    clear hA hE
    go_enter Tryz.func160, Tryz.ntmps160
    go_wp2_with fail
    refine (impl_within m _ _ _).mono ?_
    rintro ee w2 ⟨rfl, hb⟩
    rw [DA.out]
    have p2 := q0.below hb lg
    have hl2 : w.heap.size < w2.heap.size := Nat.lt_of_lt_of_le lg hb.size
    have HB2 := Lib.hid (below_step (below1 w _) hb (by simp))
    clear hb
    go_wp2_with fail
    refine (impl_within e _ _ _).mono ?_
    rintro ee w3 ⟨rfl, hb⟩
    rw [DE.out]
    have p3 := p2.below hb hl2
    obtain ⟨z0, z1⟩ := p3.cells2b
    have ff := fun i => p3.frozen i
    have hl3 : w.heap.size < w3.heap.size := Nat.lt_of_lt_of_le hl2 hb.size
    have HB3 := Lib.hid (HB2.out.trans (hb.mono HB2.out.size))
    clear hb
    go_wp2_with fail
    obtain ⟨e0, e1⟩ := ((p3.set 0 (.int .i64 (0))).set 1 (.int .i64 (0))).cells2b
    refine bodyPost_ret (v := .tuple #[.agg #[.int .i64 (0), .int .i64 (0)], .bool false]) (by simp [results, Tryz.results160, go_sem, e0, e1]) rfl ⟨by rw [HD.out], HB3.out.trans ((below2s _ _ _ _).mono (Nat.le_refl _))⟩
  have DE := Lib.hid (show decide (-100 ≤ e ∧ e ≤ 100) = true from decide_eq_true hE)
  by_cases h0 : m = 0
  · have HD := Lib.hid (show fltNewD m e = ((0, 0), true) from (if_neg (fun hh => hh ⟨hA, hE⟩)).trans (if_pos h0))
    subst h0
    clear hA hE
    go_enter Tryz.func160, Tryz.ntmps160
    go_wp2_with fail
    refine (impl_within 0 _ _ _).mono ?_
    rintro ee w2 ⟨rfl, hb⟩
    rw [DA.out]
    have p2 := q0.below hb lg
    have hl2 : w.heap.size < w2.heap.size := Nat.lt_of_lt_of_le lg hb.size
    have HB2 := Lib.hid (below_step (below1 w _) hb (by simp))
    clear hb
    go_wp2_with fail
    refine (impl_within e _ _ _).mono ?_
    rintro ee w3 ⟨rfl, hb⟩
    rw [DE.out]
    have p3 := p2.below hb hl2
    obtain ⟨z0, z1⟩ := p3.cells2b
    have ff := fun i => p3.frozen i
    have hl3 : w.heap.size < w3.heap.size := Nat.lt_of_lt_of_le hl2 hb.size
    have HB3 := Lib.hid (HB2.out.trans (hb.mono HB2.out.size))
    clear hb
    go_wp2_with fail
    obtain ⟨e0, e1⟩ := ((p3.set 0 (.int .i64 (0))).set 1 (.int .i64 (0))).cells2b
    refine bodyPost_ret (v := .tuple #[.agg #[.int .i64 (0), .int .i64 (0)], .bool true]) (by simp [results, Tryz.results160, go_sem, e0, e1]) rfl ⟨by rw [HD.out], HB3.out.trans ((below2s _ _ _ _).mono (Nat.le_refl _))⟩
  have HX := Lib.hid (fltNewD_go m e ⟨hA, hE⟩ h0)
  have h0' : (m == 0) = false := by simpa using h0
  have hpow : m.natAbs < 2 ^ 64 := by rw [show (2 : Nat) ^ 64 = 18446744073709551616 from by decide]; omega
  go_enter Tryz.func160, Tryz.ntmps160
  go_wp2_with fail
  refine (impl_within m _ _ _).mono ?_
  rintro ee w2 ⟨rfl, hb⟩
  rw [DA.out]
  have p2 := q0.below hb lg
  have hl2 : w.heap.size < w2.heap.size := Nat.lt_of_lt_of_le lg hb.size
  have HB2 := Lib.hid (below_step (below1 w _) hb (by simp))
  clear hb
  go_wp2_with fail
  refine (impl_within e _ _ _).mono ?_
  rintro ee w3 ⟨rfl, hb⟩
  rw [DE.out]
  have p3 := p2.below hb hl2
  have hl3 : w.heap.size < w3.heap.size := Nat.lt_of_lt_of_le hl2 hb.size
  have HB3 := Lib.hid (HB2.out.trans (hb.mono HB2.out.size))
  clear hb
  go_wp2_with fail
  go_loopw [0, 1] (fun nv xv wr => ∃ (n2 e2 : Int) (k : Nat), nv = .int .i64 n2 ∧ xv = .int .i64 e2 ∧ n2 ≠ 0 ∧ (-1000000000000000 ≤ n2 ∧ n2 ≤ 1000000000000000) ∧ (-100 ≤ e2 ∧ e2 + k = e + 64 ∧ e2 ≤ 164) ∧ Hid (n2.natAbs < 2 ^ k) ∧ Hid (stripE 64 m e = stripE k n2 e2) ∧ Below w3.heap.size w3 wr) (fun nv _ _ => (intOf nv).natAbs)
  case atStart => exact ⟨m, e, 64, rfl, rfl, h0, hA, by omega, Lib.hid hpow, Lib.hid rfl, Below.refl _ _⟩
  case round =>
    obtain ⟨n2, e2, k, rfl, rfl, hn0, ⟨hn2a, hn2b⟩, ⟨he2a, he2b, he2c⟩, HK, HS, hb⟩ := hrel
    have hbs := hb.size
    by_cases hg1 : n2.tmod 2 = 0
    · have ht := (tdiv2_abs n2 hg1).1
      have hk : 0 < k := by
        have := HK.out
        by_cases hz : k = 0
        · subst hz; simp at this; omega
        · omega
      have HE := Lib.hid (show stripE 64 m e = stripE (k - 1) (n2.tdiv 2) (e2 + 1) from HS.out.trans (stripE_yes k n2 e2 hk hg1))
      have HK2 := Lib.hid (show (n2.tdiv 2).natAbs < 2 ^ (k - 1) from by
        have h1 := HK.out
        rw [show k = (k - 1) + 1 from by omega, Nat.pow_succ] at h1; omega)
      have hg1' : (n2.tmod 2 == 0) = true := by simp [hg1]
      go_wp2_with fail
      go_roundw
      case rel => exact ⟨n2.tdiv 2, e2 + 1, k - 1, by first | rfl | go_num, by go_num, by omega, by omega, by omega, HK2, HE, hb⟩
      case measure => simp only [intOf]; first | omega | (simp; omega)
    · have HE := Lib.hid (show stripE 64 m e = (n2, e2) from HS.out.trans (stripE_no _ _ _ hg1))
      have HXX := Lib.hid (show fltNewD m e = if fltOk n2 e2 then ((n2, e2), true) else ((0, 0), false) from by rw [HX.out, HE.out])
      have hg1' : (n2.tmod 2 == 0) = false := by simpa using hg1
      have p4 := p3.below hb hl3
      have HB4 := Lib.hid (HB3.out.trans (hb.mono HB3.out.size))
      have hl4 : w.heap.size < wr.heap.size := by omega
      clear HX HE HS HK
      rename World => w4
      go_wp2_with fail
      have q6 := Is.new w4 (cF n2 e2) 95
      have p6 := p4.alloc (.cells (cF n2 e2) 95)
      refine (impl_FltOk n2 e2 _ ⟨by omega, by omega⟩ ⟨by omega, by omega⟩).mono ?_
      rintro ee w6 ⟨rfl, hb6⟩
      have q7 := q6.below hb6 (by simp)
      have p7 := p6.below hb6 (by simp; omega)
      obtain ⟨z0, z1⟩ := p7.cells2b
      have ff := fun i => p7.frozen i
      obtain ⟨y0, y1⟩ := q7.cells2b
      have HB6 := Lib.hid (HB4.out.trans ((below_step (below1 w4 _) hb6 (by simp)).mono (by omega)))
      have hl6 : w.heap.size < w6.heap.size := by have := hb6.size; simp at this; omega
      have hl7 : w4.heap.size < w6.heap.size := by have := hb6.size; simp at this; omega
      clear hb6
      by_cases hdo : fltOk n2 e2
      · have HD := Lib.hid (HXX.out.trans (if_pos hdo))
        rw [decide_eq_true hdo]
        clear hdo
        go_wp2_with fail
        obtain ⟨e0, e1⟩ := ((p7.set 0 (.int .i64 (n2))).set 1 (.int .i64 e2)).cells2b
        refine bodyPost_ret (v := .tuple #[.agg #[.int .i64 (n2), .int .i64 e2], .bool true]) (by simp [results, Tryz.results160, go_sem, e0, e1]) rfl ⟨by rw [HD.out], HB6.out.trans ((below2s _ _ _ _).mono (Nat.le_refl _))⟩
      · have HD := Lib.hid (HXX.out.trans (if_neg hdo))
        rw [decide_eq_false hdo]
        clear hdo
        go_wp2_with fail
        obtain ⟨e0, e1⟩ := ((p7.set 0 (.int .i64 (0))).set 1 (.int .i64 (0))).cells2b
        refine bodyPost_ret (v := .tuple #[.agg #[.int .i64 (0), .int .i64 (0)], .bool false]) (by simp [results, Tryz.results160, go_sem, e0, e1]) rfl ⟨by rw [HD.out], HB6.out.trans ((below2s _ _ _ _).mono (Nat.le_refl _))⟩
end Go.Proofs.YtpifadjlbjifhaaGreatDoor
namespace Go.Proofs.YtpifadjlbjifhaaGreatDoor
open Go.ChangeShapes Go.WideShapes Go.ChangeAt Go.RowKit Go.Joins
set_option linter.unusedVariables false
set_option maxRecDepth 100000
/-- One digit of the quotient. -/
theorem knuth (b y1 y0 u d q r : Nat) (hb : 0 < b) (h0 : y0 < b) (hd : d < b) (hu : q * y1 + r = u)
    (hle : (u * b + d) / (y1 * b + y0) ≤ q) (hq : q < b) (h : q * y0 ≤ b * r + d) (hy : 0 < y1) : (u * b + d) / (y1 * b + y0) = q := by
  refine Nat.le_antisymm hle ?_
  rw [Nat.le_div_iff_mul_le (Nat.lt_of_lt_of_le (Nat.mul_pos hy hb) (Nat.le_add_right _ _))]
  have e : q * (y1 * b + y0) + b * r = u * b + q * y0 := by rw [← hu]; grind
  omega
theorem knuth_break (b y1 y0 u d q r : Nat) (hb : 0 < b) (h0 : y0 < b) (hd : d < b) (hu : q * y1 + r = u)
    (hle : (u * b + d) / (y1 * b + y0) ≤ q) (hq : q ≤ b) (h : b ≤ r) (hy : 0 < y1) : (u * b + d) / (y1 * b + y0) = q := by
  refine Nat.le_antisymm hle ?_
  rw [Nat.le_div_iff_mul_le (Nat.lt_of_lt_of_le (Nat.mul_pos hy hb) (Nat.le_add_right _ _))]
  have e : q * (y1 * b + y0) + b * r = u * b + q * y0 := by rw [← hu]; grind
  have e2 : q * y0 ≤ b * y0 := Nat.mul_le_mul_right _ hq
  have e3 : b * y0 ≤ b * r := Nat.mul_le_mul_left _ (by omega)
  omega
theorem knuth_down (b y1 y0 u d q r : Nat) (hb : 0 < b) (h0 : y0 < b) (hd : d < b) (hu : q * y1 + r = u) (hub : u < y1 * b + y0)
    (hle : (u * b + d) / (y1 * b + y0) ≤ q) (h : b ≤ q ∨ b * r + d < q * y0) (hy : 0 < y1) : (u * b + d) / (y1 * b + y0) ≤ q - 1 ∧ 0 < q := by
  have hY : 0 < y1 * b + y0 := Nat.lt_of_lt_of_le (Nat.mul_pos hy hb) (Nat.le_add_right _ _)
  have key : (u * b + d) / (y1 * b + y0) < q := by
    rcases h with h | h
    · refine Nat.lt_of_lt_of_le ?_ h
      rw [Nat.div_lt_iff_lt_mul hY]
      have h1 : (u + 1) * b ≤ (y1 * b + y0) * b := Nat.mul_le_mul_right _ hub
      rw [Nat.mul_comm b]
      generalize (y1 * b + y0) * b = Z at *
      rw [Nat.add_mul, Nat.one_mul] at h1
      omega
    · rw [Nat.div_lt_iff_lt_mul hY]
      have e : q * (y1 * b + y0) + b * r = u * b + q * y0 := by rw [← hu]; grind
      generalize q * (y1 * b + y0) = Z at *
      omega
  generalize (u * b + d) / (y1 * b + y0) = Z at *
  omega
theorem knuth_top (b y1 y0 u : Nat) (h0 : y0 < b) (hub : u < y1 * b + y0) (hy : b ≤ 2 * y1) (hb : 2 < b) : u / y1 ≤ b + 1 := by
  have hy1 : 0 < y1 := by omega
  have : u / y1 < b + 2 := by
    rw [Nat.div_lt_iff_lt_mul hy1, Nat.add_mul, Nat.mul_comm b]
    omega
  omega
theorem knuth_both (b Y u d e : Nat) (hb : 0 < b) (hY : 0 < Y) (hu : u < Y) (he : e < b) :
    ((u * b + d) * b + e) / Y = ((u * b + d) / Y) * b + ((u * b + d) % Y * b + e) / Y ∧ ((u * b + d) * b + e) % Y = ((u * b + d) % Y * b + e) % Y := by
  have h := Nat.div_add_mod (u * b + d) Y
  have e1 : (u * b + d) * b + e = ((u * b + d) / Y * b) * Y + ((u * b + d) % Y * b + e) := by
    generalize (u * b + d) / Y = q at *
    generalize (u * b + d) % Y = r at *
    rw [← h]; grind
  constructor
  · rw [e1, Nat.mul_comm _ Y, Nat.mul_add_div hY]
  · rw [e1, Nat.mul_comm _ Y, Nat.mul_add_mod]
theorem w_mulpow (y s Y : Nat) (h : Y = y * 2 ^ s) (hb : Y < 18446744073709551616) : IntKind.u64.wrap ((y : Int) * 2 ^ s) = (Y : Int) := by
  have e : (y : Int) * 2 ^ s = (Y : Int) := by rw [h, Int.natCast_mul, Int.natCast_pow]; rfl
  rw [e]; exact Mul64.wrapN Y hb
theorem w_mulpow2 (y s : Nat) : IntKind.u64.wrap ((y : Int) * 2 ^ s) = ((y * 2 ^ s % 18446744073709551616 : Nat) : Int) := by
  have e : (y : Int) * 2 ^ s = ((y * 2 ^ s : Nat) : Int) := by rw [Int.natCast_mul, Int.natCast_pow]; rfl
  rw [e]; exact Mul64.wrapM _
theorem d_pow (y s : Nat) : (y : Int) / 2 ^ s = ((y / 2 ^ s : Nat) : Int) := by
  rw [Int.natCast_ediv, Int.natCast_pow]; rfl
theorem or_low (a c s : Nat) (ha : a * 2 ^ s < 18446744073709551616) (hc : c < 2 ^ s) (hs : s ≤ 63) : bits .or .u64 ((a * 2 ^ s : Nat) : Int) (c : Int) = ((a * 2 ^ s + c : Nat) : Int) := by
  have hp : (2 : Nat) ^ s ≤ 2 ^ 63 := Nat.pow_le_pow_right (by omega) hs
  have e64 : (2 : Int) ^ 64 = 18446744073709551616 := by decide
  have es : ((2 ^ s : Nat) : Int) = (2 : Int) ^ s := by rw [Int.natCast_pow]; rfl
  have p63 : (2 : Nat) ^ 63 = 9223372036854775808 := by decide
  have h1 := bits_join .u64 64 (by decide) (fun n h0 h1 => by rw [IntKind.wrap_u64]; exact Int.emod_eq_of_lt h0 h1) s ((a * 2 ^ s : Nat) : Int) (c : Int) (by omega) (by rw [Int.natCast_mul, Int.natCast_pow]; exact Int.mul_emod_left _ _) (by rw [e64]; omega) (by omega) (by rw [← es]; omega) (by rw [e64]; omega)
  rw [h1, Int.natCast_add]
theorem split_shift (hi lo s : Nat) (hs : s ≤ 64) : (hi * 18446744073709551616 + lo) * 2 ^ s = (hi * 2 ^ s + lo / 2 ^ (64 - s)) * 18446744073709551616 + lo * 2 ^ s % 18446744073709551616 := by
  have e : (18446744073709551616 : Nat) = 2 ^ (64 - s) * 2 ^ s := by rw [← Nat.pow_add, Nat.sub_add_cancel hs]
  have h1 : lo * 2 ^ s / 18446744073709551616 = lo / 2 ^ (64 - s) := by
    rw [e]; exact Nat.mul_div_mul_right _ _ (Nat.two_pow_pos s)
  have h2 := Nat.div_add_mod (lo * 2 ^ s) 18446744073709551616
  rw [h1] at h2
  have h3 : hi * 18446744073709551616 * 2 ^ s = hi * 2 ^ s * 18446744073709551616 := by rw [Nat.mul_right_comm]
  rw [Nat.add_mul, Nat.add_mul, h3]
  omega
theorem knuth_start (b y1 y0 u d : Nat) (hd : d < b) (hy : 0 < y1) : (u * b + d) / (y1 * b + y0) ≤ u / y1 := by
  have hb : 0 < b := by omega
  have h1 : (u * b + d) / (y1 * b + y0) ≤ (u * b + d) / (y1 * b) := Nat.div_le_div_left (Nat.le_add_right _ _) (Nat.mul_pos hy hb)
  have h2 : (u * b + d) / (y1 * b) = u / y1 := by
    rw [Nat.mul_comm y1 b, ← Nat.div_div_eq_div_mul, Nat.mul_comm u b, Nat.mul_add_div hb, Nat.div_eq_of_lt hd, Nat.add_zero]
  omega
end Go.Proofs.YtpifadjlbjifhaaGreatDoor
