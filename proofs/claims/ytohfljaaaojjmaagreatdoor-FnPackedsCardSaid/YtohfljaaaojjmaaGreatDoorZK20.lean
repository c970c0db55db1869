/- Texts of this proof, merged: RdP, MrkI, MrkG. No condition beyond what each theorem states. -/
import Derived.Test.YtohfljaaaojjmaaGreatDoorRows
import Derived.WalkKit
import Derived.ProofKit
import Derived.OpenShut
import Derived.Handy
import Derived.Lib.Hide
import Derived.Lib.ValidLaws
import Derived.Test.YtohfljaaaojjmaaGreatDoorZK1
import Derived.Test.YtohfljaaaojjmaaGreatDoorZK2
import Derived.Test.YtohfljaaaojjmaaGreatDoorZK5
import Derived.Test.YtohfljaaaojjmaaGreatDoorZK6
import Derived.Test.YtohfljaaaojjmaaGreatDoorShelf
import Derived.Test.YtohfljaaaojjmaaGreatDoorZK3
import Derived.Test.YtohfljaaaojjmaaGreatDoorZK4
import Derived.Test.YtohfljaaaojjmaaGreatDoorZK13
import Derived.Test.YtohfljaaaojjmaaGreatDoorZK7
import Derived.Test.YtohfljaaaojjmaaGreatDoorZK8
import Derived.Test.YtohfljaaaojjmaaGreatDoorZK9
import Derived.Test.YtohfljaaaojjmaaGreatDoorZK10
import Derived.Test.YtohfljaaaojjmaaGreatDoorZK14
import Derived.Test.YtohfljaaaojjmaaGreatDoorZK17
import Derived.Test.YtohfljaaaojjmaaGreatDoorZK18
import Derived.Lib.SmallJoins
import Derived.Deep.RegionHeld3
import Derived.Deep.AppendLies
import Derived.Deep.QuietTactic
import Derived.BigQuiet
import Derived.Deep.DeepCutAuto
import Derived.Laws.Bits64
import Derived.Laws.Bits64b
set_option linter.unusedSimpArgs false
set_option linter.unnecessarySimpa false
namespace Go.Proofs.YtohfljaaaojjmaaGreatDoor
open Go.ChangeShapes Go.WideShapes Go.ChangeAt Go.RowKit Go.Joins
set_option linter.unusedVariables false
set_option maxRecDepth 100000
/-! ### A tree of the packed format comes back of its bytes. No program in sight -/
theorem flt_bits {m e : Int} (h : fltOk m e) : bitsFltD (fltBitsD m e) = ((m, e), true) := by
  have hb := fltBitsD_in m e
  have hf : fltBitsD m e = 65536 * (e + 16) + m.natAbs + (if m < 0 then 16777216 else 0) := by unfold fltBitsD; rw [if_pos h]
  rcases h with ⟨rfl, rfl⟩ | ⟨h0, h1, h2, h3, h4⟩
  · rw [hf]; rfl
  have he : e ≤ 46 := by rcases h4 with h | h <;> omega
  have hr : 0 ≤ fltBitsD m e ∧ fltBitsD m e ≤ 33554431 := by
    rcases hb with h | h
    · rw [hf] at h; split at h <;> omega
    · exact h
  have ha : fltBitsD m e % 65536 = m.natAbs := by rw [hf]; split <;> omega
  have hx : fltBitsD m e / 65536 % 256 - 16 = e := by rw [hf]; split <;> omega
  have hs : 16777216 ≤ fltBitsD m e ↔ m < 0 := by rw [hf]; split <;> omega
  have hm : (if 16777216 ≤ fltBitsD m e then -(fltBitsD m e % 65536) else fltBitsD m e % 65536) = m := by
    rw [ha]; split
    · have := hs.1 ‹_›; omega
    · have : ¬ m < 0 := fun h => ‹¬ _› (hs.2 h); omega
  unfold bitsFltD
  rw [if_pos hr, hm, hx]
  unfold fltNewD
  rw [if_neg (fun hh => hh ⟨⟨by omega, by omega⟩, by omega, by omega⟩), if_neg h0, stripE_no _ _ _ h2]
  exact if_pos (Or.inr ⟨h0, h1, h2, h3, h4⟩)
theorem pk_mark {t : T} (h : ownP t) (hs : t.s.size ≤ 65535) (hl : t.l.length ≤ 65535) (h6 : t.k ≠ 6) (h11 : t.k ≠ 11) : markOkD (markForD t).1 (markForD t).2 = true := by
  obtain ⟨k, n, x, s, l⟩ := t
  simp only [ownP, T.k, T.n, T.x, T.s, T.l] at h hs hl h6 h11
  have hk : k = 1 ∨ k = 2 ∨ k = 3 ∨ k = 4 ∨ k = 5 ∨ k = 7 ∨ k = 8 ∨ k = 9 ∨ k = 10 := by
    by_cases hr : k < 1 ∨ 11 < k
    · exact absurd h (ownQ_out _ _ _ _ _ hr)
    · omega
  rcases hk with rfl | rfl | rfl | rfl | rfl | rfl | rfl | rfl | rfl
  · exact decide_eq_true ((own1 _ _ _ _).1 h).2.2.2
  · exact decide_eq_true (show 0 ≤ n ∧ n ≤ 1 from by have := ((own2 _ _ _ _).1 h).2.2.2; omega)
  · exact decide_eq_true ((own3 _ _ _ _).1 h).2.2.2
  · have hf := ((own4 _ _ _ _).1 h).2.2
    show ((bitsFltD (fltBitsD n x)).2 && decide (fltBitsD (bitsFltD (fltBitsD n x)).1.1 (bitsFltD (fltBitsD n x)).1.2 = fltBitsD n x)) = true
    rw [flt_bits hf]; simp
  · exact decide_eq_true ((own5 _ _ _ _).1 h).2.2.2
  · exact decide_eq_true (show (0 : Int) ≤ (s.size : Int) ∧ (s.size : Int) ≤ 65535 from by omega)
  · exact decide_eq_true (show (0 : Int) ≤ (s.size : Int) ∧ (s.size : Int) ≤ 65535 from by omega)
  · exact decide_eq_true (show (0 : Int) ≤ (l.length : Int) ∧ (l.length : Int) ≤ 65535 from by omega)
  · exact decide_eq_true (show (0 : Int) ≤ ((l.length / 2 : Nat) : Int) ∧ ((l.length / 2 : Nat) : Int) ≤ 65535 from by omega)
theorem pkQ_packB {t : T} (h : pkQ t) : packB t = true := by
  obtain ⟨h1, h2, h3, h4, h5, h6⟩ := h
  rw [packB_else h4 h5, h6, pk_mark h1 (by omega) (by omega) h4 h5]; rfl
theorem AllT.allB {P : T → Prop} {p : T → Bool} (hp : ∀ t, P t → p t = true) : ∀ t, AllT P t → allB p t = true := by
  apply T.ind
  intro k n x s l ih h
  rw [AllT_iff] at h
  rw [allB_eq, Bool.and_eq_true, List.all_eq_true]
  exact ⟨hp _ h.1, fun u hu => ih u hu (h.2 u hu)⟩
theorem rdMany_ok (f : List Int → Except Int (T × Nat)) : ∀ (l : List T), (∀ t ∈ l, ∀ r, f (packK t ++ r) = .ok (t, (packK t).length)) → ∀ r, rdMany f l.length (packKs l ++ r) = .ok (l, (packKs l).length) := by
  intro l
  induction l with
  | nil => intro _ r; rfl
  | cons t l ih =>
    intro h r
    rw [List.length_cons, packKs, List.append_assoc, rdMany, h t (by simp)]
    simp only
    rw [List.drop_left, ih (fun u hu => h u (by simp [hu])) r]
    simp [List.length_append]
theorem rdMany_deep (f : List Int → Except Int (T × Nat)) (d : Nat) : ∀ (l : List T), (∀ t ∈ l, T.depth t ≤ d → ∀ r, f (packK t ++ r) = .ok (t, (packK t).length)) → (∀ t ∈ l, d < T.depth t → ∀ r, f (packK t ++ r) = .error 2) → d < T.depthL l → ∀ r, rdMany f l.length (packKs l ++ r) = .error 2 := by
  intro l
  induction l with
  | nil => intro _ _ h; simp [T.depthL] at h
  | cons t l ih =>
    intro h1 h2 hd r
    rw [List.length_cons, packKs, List.append_assoc, rdMany]
    by_cases ht : d < T.depth t
    · rw [h2 t (by simp) ht]
    · rw [h1 t (by simp) (by omega)]
      simp only
      rw [List.drop_left, ih (fun u hu => h1 u (by simp [hu])) (fun u hu => h2 u (by simp [hu])) (by simp only [T.depthL] at hd; omega) r]
/-- How a tree's bytes begin, and what the reader does behind the mark. -/
theorem rdP_mark (d : Nat) {k n x : Int} {s : ByteArray} {l : List T} (hm : markOkD (markForD (.mk k n x s l)).1 (markForD (.mk k n x s l)).2 = true) (b r : List Int) (hb : b = if k = 7 ∨ k = 8 then byteL s else if k = 9 ∨ k = 10 then packKs l else []) :
    markR (packK (.mk k n x s l) ++ r) = .ok ((markForD (.mk k n x s l)).1, (markForD (.mk k n x s l)).2, (markL (markForD (.mk k n x s l)).1 (markForD (.mk k n x s l)).2).length) ∧
    (packK (.mk k n x s l) ++ r).drop (markL (markForD (.mk k n x s l)).1 (markForD (.mk k n x s l)).2).length = b ++ r ∧ (packK (.mk k n x s l)).length = (markL (markForD (.mk k n x s l)).1 (markForD (.mk k n x s l)).2).length + b.length := by
  have e : packK (.mk k n x s l) = markL (markForD (.mk k n x s l)).1 (markForD (.mk k n x s l)).2 ++ b := by rw [packK, if_neg (by rw [hm]; decide), hb]
  rw [e, List.append_assoc]
  exact ⟨markR_ok hm _, List.drop_left .., by rw [List.length_append]⟩
theorem own_kinds {k n x : Int} {s : ByteArray} {m : Nat} (h : ownQ k n x s m) : k = 1 ∨ k = 2 ∨ k = 3 ∨ k = 4 ∨ k = 5 ∨ k = 6 ∨ k = 7 ∨ k = 8 ∨ k = 9 ∨ k = 10 ∨ k = 11 := by
  by_cases hr : k < 1 ∨ 11 < k
  · exact absurd h (ownQ_out _ _ _ _ _ hr)
  · omega
/-- Read with depth enough: the tree; with less: the limit. -/
theorem rdP_both : ∀ t : T, allB ownB t = true → allB packB t = true → ∀ d, (T.depth t ≤ d → ∀ r, rdP d (packK t ++ r) = .ok (t, (packK t).length)) ∧ (d < T.depth t → ∀ r, rdP d (packK t ++ r) = .error 2) := by
  apply T.ind
  intro k n x s l ih ho hp d
  rw [allB_eq, Bool.and_eq_true, List.all_eq_true] at ho hp
  have hq : ownQ k n x s l.length := of_decide_eq_true ho.1
  have hb := hp.1
  have h6 : k ≠ 6 := by rintro rfl; rw [packB_6 (t := .mk 6 n x s l) rfl] at hb; cases hb
  have h11 : k ≠ 11 := by rintro rfl; rw [packB_11 (t := .mk 11 n x s l) rfl] at hb; cases hb
  rw [packB_else (t := .mk k n x s l) h6 h11, Bool.and_eq_true] at hb
  have hm := hb.2
  have hdep : T.depth (.mk k n x s l) = T.depthL l + 1 := by simp [T.depth]
  rw [hdep]
  cases d with
  | zero => exact ⟨fun h => by omega, fun _ r => rfl⟩
  | succ d =>
    have hch : ∀ t ∈ l, (T.depth t ≤ d → ∀ r, rdP d (packK t ++ r) = .ok (t, (packK t).length)) ∧ (d < T.depth t → ∀ r, rdP d (packK t ++ r) = .error 2) := fun t ht => ih t ht (ho.2 t ht) (hp.2 t ht) d
    rcases own_kinds hq with rfl | rfl | rfl | rfl | rfl | rfl | rfl | rfl | rfl | rfl | rfl
    · obtain ⟨h1, h2, h3, h4⟩ := (own1 _ _ _ _).1 hq
      obtain rfl := bytes_nil h1; obtain rfl := List.length_eq_zero_iff.1 h3; subst h2
      refine ⟨fun _ r => ?_, fun h => by simp [T.depthL] at h⟩
      obtain ⟨g1, g2, g3⟩ := rdP_mark d hm [] r rfl
      rw [rdP, g1, g3]; rfl
    · obtain ⟨h1, h2, h3, h4⟩ := (own2 _ _ _ _).1 hq
      obtain rfl := bytes_nil h1; obtain rfl := List.length_eq_zero_iff.1 h3; subst h2
      refine ⟨fun _ r => ?_, fun h => by simp [T.depthL] at h⟩
      obtain ⟨g1, g2, g3⟩ := rdP_mark d hm [] r rfl
      rw [rdP, g1, g3]; rfl
    · obtain ⟨h1, h2, h3, h4⟩ := (own3 _ _ _ _).1 hq
      obtain rfl := bytes_nil h1; obtain rfl := List.length_eq_zero_iff.1 h3; subst h2
      refine ⟨fun _ r => ?_, fun h => by simp [T.depthL] at h⟩
      obtain ⟨g1, g2, g3⟩ := rdP_mark d hm [] r rfl
      rw [rdP, g1, g3]; rfl
    · obtain ⟨h1, h3, h4⟩ := (own4 _ _ _ _).1 hq
      obtain rfl := bytes_nil h1; obtain rfl := List.length_eq_zero_iff.1 h3
      refine ⟨fun _ r => ?_, fun h => by simp [T.depthL] at h⟩
      obtain ⟨g1, g2, g3⟩ := rdP_mark d hm [] r rfl
      rw [rdP, g1, g3]
      have e : (markForD (.mk 4 n x ⟨#[]⟩ [])) = (4, fltBitsD n x) := rfl
      rw [e]
      simp only [if_pos, flt_bits h4, List.length_nil, Nat.add_zero]
    · obtain ⟨h1, h2, h3, h4⟩ := (own5 _ _ _ _).1 hq
      obtain rfl := bytes_nil h1; obtain rfl := List.length_eq_zero_iff.1 h3; subst h2
      refine ⟨fun _ r => ?_, fun h => by simp [T.depthL] at h⟩
      obtain ⟨g1, g2, g3⟩ := rdP_mark d hm [] r rfl
      rw [rdP, g1, g3]; rfl
    · exact absurd rfl h6
    · obtain ⟨h1, h2, h3, h4⟩ := (own7 _ _ _ _).1 hq
      obtain rfl := List.length_eq_zero_iff.1 h2; subst h1; subst h3
      refine ⟨fun _ r => ?_, fun h => by simp [T.depthL] at h⟩
      obtain ⟨g1, g2, g3⟩ := rdP_mark d hm (byteL s) r rfl
      rw [rdP, g1, g3]
      have e : (markForD (.mk 7 0 0 s [])) = (7, (s.size : Int)) := rfl
      rw [e] at g2 g3 ⊢
      dsimp only at g2 g3 ⊢
      rw [if_neg (by decide), if_pos (Or.inl rfl), g2, List.length_append, g3, Int.toNat_natCast, byteL_len, if_neg (by omega), List.take_append_of_le_length (by rw [byteL_len]; exact Nat.le_refl _), List.take_of_length_le (by rw [byteL_len]; exact Nat.le_refl _), byteL_str, if_neg (by rw [h4]; simp)]
    · obtain ⟨h1, h2, h3⟩ := (own8 _ _ _ _).1 hq
      obtain rfl := List.length_eq_zero_iff.1 h2; subst h1; subst h3
      refine ⟨fun _ r => ?_, fun h => by simp [T.depthL] at h⟩
      obtain ⟨g1, g2, g3⟩ := rdP_mark d hm (byteL s) r rfl
      rw [rdP, g1, g3]
      have e : (markForD (.mk 8 0 0 s [])) = (8, (s.size : Int)) := rfl
      rw [e] at g2 g3 ⊢
      dsimp only at g2 g3 ⊢
      rw [if_neg (by decide), if_pos (Or.inr rfl), g2, List.length_append, g3, Int.toNat_natCast, byteL_len, if_neg (by omega), List.take_append_of_le_length (by rw [byteL_len]; exact Nat.le_refl _), List.take_of_length_le (by rw [byteL_len]; exact Nat.le_refl _), byteL_str, if_neg (by simp)]
    · obtain ⟨h1, h2, h3⟩ := (own9 _ _ _ _).1 hq
      obtain rfl := bytes_nil h1; subst h2; subst h3
      have e : (markForD (.mk 9 0 0 ⟨#[]⟩ l)) = (9, (l.length : Int)) := rfl
      refine ⟨fun h r => ?_, fun h r => ?_⟩
      · obtain ⟨g1, g2, g3⟩ := rdP_mark d hm (packKs l) r rfl
        rw [rdP, g1, g3]
        rw [e] at g2 g3 ⊢
        dsimp only at g2 g3 ⊢
        rw [if_neg (by decide), if_neg (by decide), if_pos (Or.inl rfl), if_neg (by decide), g2, Int.toNat_natCast, rdMany_ok _ _ (fun t ht => (hch t ht).1 (by obtain ⟨i, hi, rfl⟩ := mem_get ht; have := T.depth_get l i hi; omega))]
      · obtain ⟨g1, g2, g3⟩ := rdP_mark d hm (packKs l) r rfl
        rw [rdP, g1]
        rw [e] at g2 ⊢
        dsimp only at g2 ⊢
        rw [if_neg (by decide), if_neg (by decide), if_pos (Or.inl rfl), if_neg (by decide), g2, Int.toNat_natCast, rdMany_deep _ d _ (fun t ht => (hch t ht).1) (fun t ht => (hch t ht).2) (by omega)]
    · obtain ⟨h1, h2, h3, h4⟩ := (own10 _ _ _ _).1 hq
      obtain rfl := bytes_nil h1; subst h2; subst h3
      have e : (markForD (.mk 10 0 0 ⟨#[]⟩ l)) = (10, ((l.length / 2 : Nat) : Int)) := rfl
      have e2 : 2 * (l.length / 2) = l.length := by omega
      refine ⟨fun h r => ?_, fun h r => ?_⟩
      · obtain ⟨g1, g2, g3⟩ := rdP_mark d hm (packKs l) r rfl
        rw [rdP, g1, g3]
        rw [e] at g2 g3 ⊢
        dsimp only at g2 g3 ⊢
        rw [if_neg (by decide), if_neg (by decide), if_pos (Or.inr rfl), if_pos rfl, g2, Int.toNat_natCast, e2, rdMany_ok _ _ (fun t ht => (hch t ht).1 (by obtain ⟨i, hi, rfl⟩ := mem_get ht; have := T.depth_get l i hi; omega))]
      · obtain ⟨g1, g2, g3⟩ := rdP_mark d hm (packKs l) r rfl
        rw [rdP, g1]
        rw [e] at g2 ⊢
        dsimp only at g2 ⊢
        rw [if_neg (by decide), if_neg (by decide), if_pos (Or.inr rfl), if_pos rfl, g2, Int.toNat_natCast, e2, rdMany_deep _ d _ (fun t ht => (hch t ht).1) (fun t ht => (hch t ht).2) (by omega)]
    · exact absurd rfl h11
end Go.Proofs.YtohfljaaaojjmaaGreatDoor
namespace Go.Proofs.YtohfljaaaojjmaaGreatDoor
open Go.ChangeShapes Go.WideShapes Go.ChangeAt Go.RowKit Go.Joins
set_option linter.unusedVariables false
set_option maxRecDepth 100000
/-- Part of a row of bytes. -/
theorem Rd.mid {w : World} {B cap b o : Nat} {l : List Int} (h : Rd EByte 1 w B (some ⟨b, o, none⟩) cap l) (i m c : Nat) (him : i + m ≤ l.length) (hmc : m ≤ c) (hc : c ≤ maxLen) : Rd EByte 1 w B (some ⟨b, o + i, none⟩) c ((l.drop i).take m) := by
  obtain ⟨F, ⟨h1, h2, h3, h4⟩, hF⟩ := h
  have hlen : ((l.drop i).take m).length = m := by rw [List.length_take, List.length_drop]; omega
  by_cases hm : m = 0
  · subst hm; rw [List.take_zero]; exact ⟨[], Sl.nil _ _ _ hc, by simp⟩
  obtain ⟨b', o', F', ha, rfl, hr⟩ := h4 (by rintro rfl; simp at him; omega)
  cases ha
  have e1 : l = l.take i ++ l.drop i := (List.take_append_drop i l).symm
  rw [e1] at hr
  obtain ⟨F1, F2, rfl, _, g2⟩ := Row.split hr
  have e2 : l.drop i = (l.drop i).take m ++ (l.drop i).drop m := (List.take_append_drop m (l.drop i)).symm
  rw [e2] at g2
  obtain ⟨G1, G2, rfl, g3, _⟩ := Row.split g2
  rw [List.length_take, Nat.min_eq_left (by omega), Nat.mul_one] at g3
  refine ⟨b :: G1, ⟨by omega, hc, fun hn => by rw [hn] at hlen; simp at hlen; omega, fun _ => ⟨b, o + i, G1, rfl, rfl, g3⟩⟩, fun f hf => hF f ?_⟩
  rcases List.mem_cons.1 hf with rfl | hf
  · simp
  · simp [hf]
theorem Rd.u8 {w : World} {B cap : Nat} {a : Option Addr} {l : List Int} (h : Rd EByte 1 w B a cap l) : ∀ x ∈ l, U8 x := by
  intro x hx
  obtain ⟨i, hi, rfl⟩ := List.getElem_of_mem hx
  obtain ⟨b, o, _, _, _, hu⟩ := h.byte i hi
  exact hu
theorem impl_exist (a : Option Addr) (m cap : Nat) (p n : Int) (w : World) (hm : m ≤ 1099511627776) (hn : I64 n) : Calls Tryz.prog 173 #[.slice a m cap, .int .i64 p, .int .i64 n] w fun e w' => e = .returned (.bool (decide ((0 ≤ n ∧ n ≤ m) ∧ (0 ≤ p ∧ p ≤ m - n)))) ∧ Below w.heap.size w w' := by
  by_cases h1 : 0 ≤ n ∧ n ≤ (m : Int)
  · have D1 := Lib.hid (show decide (0 ≤ n ∧ n ≤ (m : Int)) = true from decide_eq_true h1)
    have HE := Lib.hid (show decide ((0 ≤ n ∧ n ≤ (m : Int)) ∧ (0 ≤ p ∧ p ≤ m - n)) = decide (0 ≤ p ∧ p ≤ (m : Int) - n) from by simp [h1])
    rw [HE.out]
    have hw : wrap64 ((m : Int) - n) = (m : Int) - n := Go.IntWalk.wrap64_in _ ⟨by omega, by omega⟩
    have HW := Lib.hid hw
    obtain ⟨d, hd⟩ : ∃ d, decide (0 ≤ p ∧ p ≤ (m : Int) - n) = d := ⟨_, rfl⟩
    have HD := Lib.hid hd
    rw [hd]
    obtain ⟨h1a, h1b⟩ := h1
    clear hd HE
    go_enter Tryz.func173, Tryz.ntmps173
    go_wp2_with (go_at_call 104; refine (impl_withinE _ _ _ _).mono ?_; rintro ee w2 ⟨rfl, rfl⟩; first | rw [D1.out] | rw [HD.out])
    go_ret
    exact ⟨rfl, Below.refl _ _⟩
  · have D1 := Lib.hid (show decide (0 ≤ n ∧ n ≤ (m : Int)) = false from decide_eq_false h1)
    have HE := Lib.hid (show decide ((0 ≤ n ∧ n ≤ (m : Int)) ∧ (0 ≤ p ∧ p ≤ m - n)) = false from decide_eq_false (fun h => h1 h.1))
    rw [HE.out]
    clear HE h1
    go_enter Tryz.func173, Tryz.ntmps173
    go_wp2_with (go_at_call 104; refine (impl_withinE _ _ _ _).mono ?_; rintro ee w2 ⟨rfl, rfl⟩; rw [D1.out])
    go_ret
    exact ⟨rfl, Below.refl _ _⟩
set_option maxHeartbeats 4000000 in
theorem impl_shortMark (c : Int) (w : World) (hc0 : 0 ≤ c) (hc1 : c ≤ 255) :
    Calls Tryz.prog 174 #[.int .i64 c] w fun ee w' => ee = .returned (.tuple #[.agg (cM ((shortD c).getD (0, 0)).1 ((shortD c).getD (0, 0)).2), .bool (shortD c).isSome]) ∧ Below w.heap.size w w' := by
  have q0 := Is.new w (cM 0 0) 65
  have ff := fun i => q0.frozen i
  obtain ⟨z0, z1⟩ := q0.cells2
  have lg : w.heap.size < (w.alloc (.cells (cM 0 0) 65)).heap.size := by simp
  by_cases h0 : c < 128
  case pos =>
    have HD := Lib.hid (show shortD c = some (3, c) from by unfold shortD; rw [if_pos h0])
    rw [HD.out]; clear HD
    go_enter Tryz.func174, Tryz.ntmps174
    go_wp2_with fail
    obtain ⟨e0, e1⟩ := ((q0.set 0 (.int .i64 (3))).set 1 (.int .i64 (c))).cells2
    refine bodyPost_ret (v := .tuple #[.agg #[.int .i64 (3), .int .i64 (c)], .bool true]) (by simp [results, Tryz.results174, go_sem, e0, e1]) rfl ⟨rfl, by first | exact below1 w _ | exact (below1 w _).trans ((below2s _ _ _ _).mono (Nat.le_refl _))⟩
  by_cases h1 : c < 144
  case pos =>
    have HD := Lib.hid (show shortD c = some (10, c - 128) from by unfold shortD; rw [if_neg h0, if_pos h1])
    rw [HD.out]; clear HD
    go_enter Tryz.func174, Tryz.ntmps174
    go_wp2_with fail
    obtain ⟨e0, e1⟩ := ((q0.set 0 (.int .i64 (10))).set 1 (.int .i64 (c - 128))).cells2
    refine bodyPost_ret (v := .tuple #[.agg #[.int .i64 (10), .int .i64 (c - 128)], .bool true]) (by simp [results, Tryz.results174, go_sem, e0, e1]) rfl ⟨rfl, by first | exact below1 w _ | exact (below1 w _).trans ((below2s _ _ _ _).mono (Nat.le_refl _))⟩
  by_cases h2 : c < 160
  case pos =>
    have HD := Lib.hid (show shortD c = some (9, c - 144) from by unfold shortD; rw [if_neg h0, if_neg h1, if_pos h2])
    rw [HD.out]; clear HD
    go_enter Tryz.func174, Tryz.ntmps174
    go_wp2_with fail
    obtain ⟨e0, e1⟩ := ((q0.set 0 (.int .i64 (9))).set 1 (.int .i64 (c - 144))).cells2
    refine bodyPost_ret (v := .tuple #[.agg #[.int .i64 (9), .int .i64 (c - 144)], .bool true]) (by simp [results, Tryz.results174, go_sem, e0, e1]) rfl ⟨rfl, by first | exact below1 w _ | exact (below1 w _).trans ((below2s _ _ _ _).mono (Nat.le_refl _))⟩
  by_cases h3 : c < 192
  case pos =>
    have HD := Lib.hid (show shortD c = some (7, c - 160) from by unfold shortD; rw [if_neg h0, if_neg h1, if_neg h2, if_pos h3])
    rw [HD.out]; clear HD
    go_enter Tryz.func174, Tryz.ntmps174
    go_wp2_with fail
    obtain ⟨e0, e1⟩ := ((q0.set 0 (.int .i64 (7))).set 1 (.int .i64 (c - 160))).cells2
    refine bodyPost_ret (v := .tuple #[.agg #[.int .i64 (7), .int .i64 (c - 160)], .bool true]) (by simp [results, Tryz.results174, go_sem, e0, e1]) rfl ⟨rfl, by first | exact below1 w _ | exact (below1 w _).trans ((below2s _ _ _ _).mono (Nat.le_refl _))⟩
  by_cases h4 : c = 192
  case pos =>
    subst h4
    have HD := Lib.hid (show shortD 192 = some (1, 0) from rfl)
    rw [HD.out]; clear HD h0 h1 h2 h3 hc0 hc1
    go_enter Tryz.func174, Tryz.ntmps174
    go_wp2_with fail
    obtain ⟨e0, e1⟩ := ((q0.set 0 (.int .i64 (1))).set 1 (.int .i64 (0))).cells2
    refine bodyPost_ret (v := .tuple #[.agg #[.int .i64 (1), .int .i64 (0)], .bool true]) (by simp [results, Tryz.results174, go_sem, e0, e1]) rfl ⟨rfl, by first | exact below1 w _ | exact (below1 w _).trans ((below2s _ _ _ _).mono (Nat.le_refl _))⟩
  by_cases h194 : c = 194
  case pos =>
    subst h194
    have HD := Lib.hid (show shortD 194 = some (2, 0) from rfl)
    rw [HD.out]; clear HD h0 h1 h2 h3 h4 hc0 hc1
    go_enter Tryz.func174, Tryz.ntmps174
    go_wp2_with fail
    obtain ⟨e0, e1⟩ := ((q0.set 0 (.int .i64 (2))).set 1 (.int .i64 (0))).cells2
    refine bodyPost_ret (v := .tuple #[.agg #[.int .i64 (2), .int .i64 (0)], .bool true]) (by simp [results, Tryz.results174, go_sem, e0, e1]) rfl ⟨rfl, by first | exact below1 w _ | exact (below1 w _).trans ((below2s _ _ _ _).mono (Nat.le_refl _))⟩
  by_cases h195 : c = 195
  case pos =>
    subst h195
    have HD := Lib.hid (show shortD 195 = some (2, 1) from rfl)
    rw [HD.out]; clear HD h0 h1 h2 h3 h4 hc0 hc1 h194
    go_enter Tryz.func174, Tryz.ntmps174
    go_wp2_with fail
    obtain ⟨e0, e1⟩ := ((q0.set 0 (.int .i64 (2))).set 1 (.int .i64 (1))).cells2
    refine bodyPost_ret (v := .tuple #[.agg #[.int .i64 (2), .int .i64 (1)], .bool true]) (by simp [results, Tryz.results174, go_sem, e0, e1]) rfl ⟨rfl, by first | exact below1 w _ | exact (below1 w _).trans ((below2s _ _ _ _).mono (Nat.le_refl _))⟩
  have b4 : (c == 192) = false := by simpa using h4
  have b5 : (c == 194) = false := by simpa using h194
  have b6 : (c == 195) = false := by simpa using h195
  by_cases h6 : 224 ≤ c
  case pos =>
    have HD := Lib.hid (show shortD c = some (3, c - 256) from by unfold shortD; rw [if_neg h0, if_neg h1, if_neg h2, if_neg h3, if_neg h4, if_neg (by omega), if_pos h6])
    rw [HD.out]; clear HD
    go_enter Tryz.func174, Tryz.ntmps174
    go_wp2_with fail
    obtain ⟨e0, e1⟩ := ((q0.set 0 (.int .i64 (3))).set 1 (.int .i64 (c - 256))).cells2
    refine bodyPost_ret (v := .tuple #[.agg #[.int .i64 (3), .int .i64 (c - 256)], .bool true]) (by simp [results, Tryz.results174, go_sem, e0, e1]) rfl ⟨rfl, by first | exact below1 w _ | exact (below1 w _).trans ((below2s _ _ _ _).mono (Nat.le_refl _))⟩
  have HD := Lib.hid (show shortD c = none from by unfold shortD; rw [if_neg h0, if_neg h1, if_neg h2, if_neg h3, if_neg h4, if_neg (by omega), if_neg h6])
  rw [HD.out]; clear HD
  go_enter Tryz.func174, Tryz.ntmps174
  go_wp2_with fail
  obtain ⟨e0, e1⟩ := ((q0.set 0 (.int .i64 (0))).set 1 (.int .i64 (0))).cells2
  refine bodyPost_ret (v := .tuple #[.agg #[.int .i64 (0), .int .i64 (0)], .bool false]) (by simp [results, Tryz.results174, go_sem, e0, e1]) rfl ⟨rfl, by first | exact below1 w _ | exact (below1 w _).trans ((below2s _ _ _ _).mono (Nat.le_refl _))⟩
set_option maxHeartbeats 4000000 in
theorem impl_markForm (c : Int) (w : World) (hc0 : 0 ≤ c) (hc1 : c ≤ 255) :
    Calls Tryz.prog 175 #[.int .i64 c] w fun ee w' => ee = .returned (.tuple #[.int .i64 (formD c).1, .int .i64 ((formD c).2 : Nat)]) ∧ Below w.heap.size w w' := by
  by_cases hin : c = 196 ∨ c = 197 ∨ c = 198 ∨ c = 202 ∨ c = 204 ∨ c = 205 ∨ c = 206 ∨ c = 207 ∨ c = 208 ∨ c = 209 ∨ c = 210 ∨ c = 211 ∨ c = 212 ∨ c = 217 ∨ c = 218 ∨ c = 219 ∨ c = 220 ∨ c = 221 ∨ c = 222 ∨ c = 223
  · rcases hin with rfl | rfl | rfl | rfl | rfl | rfl | rfl | rfl | rfl | rfl | rfl | rfl | rfl | rfl | rfl | rfl | rfl | rfl | rfl | rfl
    all_goals
      clear hc0 hc1
      go_enter Tryz.func175, Tryz.ntmps175
      go_wp2_with (go_at_call 104; refine (impl_withinE _ _ _ _).mono ?_; rintro ee w2 ⟨rfl, rfl⟩; first | rw [decide_eq_true (by decide)] | rw [decide_eq_false (by decide)])
      go_ret2
      exact ⟨rfl, Below.refl _ _⟩
  · have HD := Lib.hid (show formD c = (0, 0) from by unfold formD; rw [if_neg (by omega), if_neg (by omega), if_neg (by omega), if_neg (by omega), if_neg (by omega), if_neg (by omega), if_neg (by omega), if_neg (by omega), if_neg (by omega), if_neg (by omega), if_neg (by omega), if_neg (by omega), if_neg (by omega), if_neg (by omega), if_neg (by omega), if_neg (by omega), if_neg (by omega), if_neg (by omega), if_neg (by omega), if_neg (by omega)])
    rw [HD.out]
    have d1 : decide (196 ≤ c ∧ c ≤ 198) = false := decide_eq_false (by omega)
    have d2 : decide (204 ≤ c ∧ c ≤ 207) = false := decide_eq_false (by omega)
    have d3 : decide (208 ≤ c ∧ c ≤ 211) = false := decide_eq_false (by omega)
    have d4 : decide (217 ≤ c ∧ c ≤ 219) = false := decide_eq_false (by omega)
    have D1 := Lib.hid d1; have D2 := Lib.hid d2; have D3 := Lib.hid d3; have D4 := Lib.hid d4
    have b1 : (c == 202) = false := by simp; omega
    have b2 : (c == 212) = false := by simp; omega
    have b3 : (c == 220) = false := by simp; omega
    have b4 : (c == 221) = false := by simp; omega
    have b5 : (c == 222) = false := by simp; omega
    have b6 : (c == 223) = false := by simp; omega
    clear HD hin d1 d2 d3 d4
    go_enter Tryz.func175, Tryz.ntmps175
    go_wp2_with (go_at_call 104; refine (impl_withinE _ _ _ _).mono ?_; rintro ee w2 ⟨rfl, rfl⟩; first | rw [D1.out] | rw [D2.out] | rw [D3.out] | rw [D4.out])
    go_ret2
    exact ⟨rfl, Below.refl _ _⟩
theorem or_u64 (n x : Int) (h0 : 0 ≤ n) (hn : n < 72057594037927936) (hx0 : 0 ≤ x) (hx : x ≤ 255) : bits .or .u64 (n * 256) x = n * 256 + x := by
  obtain ⟨u, rfl⟩ : ∃ u : Nat, n = u := ⟨n.toNat, by omega⟩
  obtain ⟨v, rfl⟩ : ∃ v : Nat, x = v := ⟨x.toNat, by omega⟩
  have hv : v < 2 ^ 8 := by omega
  show IntKind.u64.wrap ((BitVec.ofInt 64 ((u : Int) * 256) ||| BitVec.ofInt 64 (v : Int)).toNat : Int) = _
  have e1 : (BitVec.ofInt 64 ((u : Int) * 256)).toNat = u * 2 ^ 8 := by rw [BitVec.toNat_ofInt]; omega
  have e2 : (BitVec.ofInt 64 (v : Int)).toNat = v := by rw [BitVec.toNat_ofInt]; omega
  rw [BitVec.toNat_or, e1, e2, Nat.mul_comm, ← Nat.two_pow_add_eq_or_of_lt hv]
  simp [IntKind.wrap, IntKind.bits, IntKind.signed]; omega
theorem sgN1 (n : Int) (h0 : 0 ≤ n) (h1 : n < 256 ^ 1) : sgN 1 n = wrap64 (n * 72057594037927936) / 72057594037927936 := by
  have e1 : (2 : Int) ^ (8 * 1 - 1) = 128 := by decide
  have e2 : (2 : Int) ^ (8 * 1) = 256 := by decide
  have e3 : (256 : Int) ^ 1 = 256 := by decide
  unfold sgN wrap64; rw [e1, e2]; split <;> omega
theorem sgN2 (n : Int) (h0 : 0 ≤ n) (h1 : n < 256 ^ 2) : sgN 2 n = wrap64 (n * 281474976710656) / 281474976710656 := by
  have e1 : (2 : Int) ^ (8 * 2 - 1) = 32768 := by decide
  have e2 : (2 : Int) ^ (8 * 2) = 65536 := by decide
  have e3 : (256 : Int) ^ 2 = 65536 := by decide
  unfold sgN wrap64; rw [e1, e2]; split <;> omega
theorem sgN4 (n : Int) (h0 : 0 ≤ n) (h1 : n < 256 ^ 4) : sgN 4 n = wrap64 (n * 4294967296) / 4294967296 := by
  have e1 : (2 : Int) ^ (8 * 4 - 1) = 2147483648 := by decide
  have e2 : (2 : Int) ^ (8 * 4) = 4294967296 := by decide
  have e3 : (256 : Int) ^ 4 = 4294967296 := by decide
  unfold sgN wrap64; rw [e1, e2]; split <;> omega
theorem sgN8 (n : Int) (h0 : 0 ≤ n) (h1 : n < 256 ^ 8) : sgN 8 n = wrap64 n := by
  have e1 : (2 : Int) ^ (8 * 8 - 1) = 9223372036854775808 := by decide
  have e2 : (2 : Int) ^ (8 * 8) = 18446744073709551616 := by decide
  have e3 : (256 : Int) ^ 8 = 18446744073709551616 := by decide
  unfold sgN wrap64; rw [e1, e2]; split <;> omega
/-- The number of bytes as the call hands it back. -/
def argN (sg : Bool) (bs : List Int) : Int := if sg then sgN bs.length (beN bs) else wrap64 (beN bs)
def argOk (sg : Bool) (bs : List Int) : Bool := if sg then decide (-1000000000000000 ≤ sgN bs.length (beN bs) ∧ sgN bs.length (beN bs) ≤ 1000000000000000) else decide (beN bs ≤ 1000000000000000)
set_option maxHeartbeats 8000000 in
theorem impl_argumentQ (bs : List Int) (a : Option Addr) (cap B : Nat) (sg : Bool) (w : World) (hr : Rd EByte 1 w B a cap bs) (hB : B ≤ w.heap.size) (hw : bs.length = 1 ∨ bs.length = 2 ∨ bs.length = 4 ∨ bs.length = 8) :
    Calls Tryz.prog 176 #[.slice a bs.length cap, .bool sg] w fun ee w' => ee = .returned (.tuple #[.int .i64 (argN sg bs), .bool (argOk sg bs)]) ∧ w' = w := by
  obtain ⟨hlc, hcap⟩ := hr.len
  have HU := Lib.hid hr.u8
  have HR := Lib.hid hr; clear hr
  have HW8 := Lib.hid hw
  have h8 : bs.length ≤ 8 := by omega
  clear hw
  go_enter Tryz.func176, Tryz.ntmps176
  go_wp2_with fail
  go_loopw [6, 8, 13] (fun nv _ iv wr => ∃ j : Nat, j ≤ bs.length ∧ iv = .int .i64 j ∧ nv = .int .u64 (beN (bs.take j)) ∧ 0 ≤ beN (bs.take j) ∧ beN (bs.take j) < 256 ^ j ∧ wr = w) (fun _ _ i _ => bs.length - (intOf i).toNat)
  case atStart => exact ⟨0, by omega, rfl, rfl, by simp [beN, beF], by simp [beN, beF], rfl⟩
  case round =>
    obtain ⟨j, hj, rfl, rfl, hn0, hn1, rfl⟩ := hrel
    by_cases hlt : j < bs.length
    · have hltz : (j : Int) < (bs.length : Int) := by omega
      obtain ⟨b, o, rfl, hbl, hcell, hx0, hx1⟩ := HR.out.byte j hlt
      have hlb : b < wr.heap.size := by omega
      have hsn : beN (bs.take (j + 1)) = beN (bs.take j) * 256 + bs[j] := by unfold beN; rw [take_snoc bs j hlt, beF_append]; rfl
      have hpw : (256 : Int) ^ j ≤ 72057594037927936 := by
        have : (256 : Int) ^ j = ((256 ^ j : Nat) : Int) := by simp
        rw [this]
        have := Nat.pow_le_pow_right (show 0 < 256 by omega) (show j ≤ 7 by omega)
        have e : (256 : Nat) ^ 7 = 72057594037927936 := by decide
        omega
      have hp1 : (256 : Int) ^ (j + 1) = 256 ^ j * 256 := Int.pow_succ ..
      have HSN := Lib.hid hsn; have HP1 := Lib.hid hp1; clear hsn hp1
      generalize (256 : Int) ^ j = pj at *
      generalize bs[j] = x at *
      generalize beN (bs.take j) = n at *
      have hor := or_u64 n x hn0 (by omega) hx0 hx1
      have hwu : IntKind.u64.wrap (n * 256) = n * 256 := by simp [IntKind.wrap, IntKind.bits, IntKind.signed]; omega
      go_wp2_with fail
      go_roundw
      case rel => exact ⟨j + 1, by omega, by go_num, by rw [HSN.out], by rw [HSN.out]; omega, by rw [HSN.out, HP1.out]; omega, by first | rfl | trivial⟩
      case measure => simp [intOf]; omega
    · obtain rfl : j = bs.length := by omega
      rw [List.take_length] at hn0 hn1
      rw [List.take_length]
      have hltz : ¬ (bs.length : Int) < (bs.length : Int) := by omega
      obtain ⟨n, hn⟩ : ∃ n, beN bs = n := ⟨_, rfl⟩
      obtain ⟨m, hm⟩ : ∃ m, bs.length = m := ⟨_, rfl⟩
      rw [hn] at hn0 hn1
      rw [hm] at hn1
      rw [hm] at hltz h8
      rw [hn, hm]
      have HN := Lib.hid hn; have HM := Lib.hid hm
      have HW9 := Lib.hid (show m = 1 ∨ m = 2 ∨ m = 4 ∨ m = 8 from by rw [← hm]; exact HW8.out)
      clear hn hm hj hlt
      cases sg with
      | false =>
        have HA := Lib.hid (show argN false bs = wrap64 n from by rw [← HN.out]; rfl)
        have HO := Lib.hid (show argOk false bs = decide (n ≤ 1000000000000000) from by rw [← HN.out]; rfl)
        go_wp2_with fail
        go_ret2
        exact ⟨by rw [HA.out, HO.out]; rfl, rfl⟩
      | true =>
        have HA := Lib.hid (show argN true bs = sgN m n from by rw [← HN.out, ← HM.out]; rfl)
        have HO := Lib.hid (show argOk true bs = decide (-1000000000000000 ≤ sgN m n ∧ sgN m n ≤ 1000000000000000) from by rw [← HN.out, ← HM.out]; rfl)
        rcases HW9.out with rfl | rfl | rfl | rfl
        all_goals
          go_wp2_with fail
          refine (impl_withinE _ _ _ _).mono ?_
          rintro ee w2 ⟨rfl, rfl⟩
          go_wp2_with fail
          go_ret2
          exact ⟨by rw [HA.out, HO.out]; (first | rw [sgN1 n hn0 hn1] | rw [sgN2 n hn0 hn1] | rw [sgN4 n hn0 hn1] | rw [sgN8 n hn0 hn1]); (first | done | rfl | simp [Bool.decide_and]), rfl⟩
end Go.Proofs.YtohfljaaaojjmaaGreatDoor
namespace Go.Proofs.YtohfljaaaojjmaaGreatDoor
open Go.ChangeShapes Go.WideShapes Go.ChangeAt Go.RowKit Go.Joins
set_option linter.unusedVariables false
set_option maxRecDepth 100000
def getM (bs : List Int) (p : Int) : (Int × Int) × Int × Int :=
  if 0 ≤ p ∧ p < bs.length then (match markR (bs.drop p.toNat) with | .error c => ((0, 0), 0, c) | .ok (k, n, u) => ((k, n), p + u, 0)) else ((0, 0), 0, 1)
theorem getM_short {bs : List Int} {j : Nat} (hj : j < bs.length) {k n : Int} (h : shortD bs[j] = some (k, n)) : getM bs j = ((k, n), (j : Int) + 1, 0) := by
  unfold getM
  rw [if_pos ⟨by omega, by omega⟩, Int.toNat_natCast, List.drop_eq_getElem_cons hj]
  unfold markR
  dsimp only
  rw [h]; rfl
theorem getM_form {bs : List Int} {j : Nat} (hj : j < bs.length) (h : shortD bs[j] = none) (hf : (formD bs[j]).1 = 0 ∨ bs.length - (j + 1) < (formD bs[j]).2) : getM bs j = ((0, 0), 0, 1) := by
  unfold getM
  rw [if_pos ⟨by omega, by omega⟩, Int.toNat_natCast, List.drop_eq_getElem_cons hj]
  unfold markR
  dsimp only
  rw [h]
  dsimp only
  rw [if_pos (by rw [List.length_drop]; exact hf)]
theorem getM_arg {bs : List Int} {j : Nat} (hj : j < bs.length) (h : shortD bs[j] = none) (hk : (formD bs[j]).1 ≠ 0) (hw : (formD bs[j]).2 ≤ bs.length - (j + 1)) :
    getM bs j = (match argD bs[j] (formD bs[j]).1 (formD bs[j]).2 ((bs.drop (j + 1)).take (formD bs[j]).2) with | .error c => ((0, 0), 0, c) | .ok (k, n, u) => ((k, n), (j : Int) + u, 0)) := by
  unfold getM
  rw [if_pos ⟨by omega, by omega⟩, Int.toNat_natCast, List.drop_eq_getElem_cons hj]
  unfold markR
  dsimp only
  rw [h]
  dsimp only
  rw [if_neg (by rw [List.length_drop]; omega)]
theorem formD_cases (c : Int) : ((formD c).1 = 0 ∧ (formD c).2 = 0) ∨ ((formD c).1 = 3 ∧ (204 ≤ c ∧ c ≤ 211) ∧ ((formD c).2 = 1 ∨ (formD c).2 = 2 ∨ (formD c).2 = 4 ∨ (formD c).2 = 8)) ∨ ((formD c).1 = 4 ∧ c = 202 ∧ (formD c).2 = 4) ∨
    ((formD c).1 = 5 ∧ c = 212 ∧ (formD c).2 = 2) ∨ (((formD c).1 = 7 ∨ (formD c).1 = 8 ∨ (formD c).1 = 9 ∨ (formD c).1 = 10) ∧ (c < 204 ∨ 211 < c) ∧ ((formD c).2 = 1 ∨ (formD c).2 = 2 ∨ (formD c).2 = 4)) := by
  by_cases hin : c = 196 ∨ c = 197 ∨ c = 198 ∨ c = 202 ∨ c = 204 ∨ c = 205 ∨ c = 206 ∨ c = 207 ∨ c = 208 ∨ c = 209 ∨ c = 210 ∨ c = 211 ∨ c = 212 ∨ c = 217 ∨ c = 218 ∨ c = 219 ∨ c = 220 ∨ c = 221 ∨ c = 222 ∨ c = 223
  · rcases hin with rfl | rfl | rfl | rfl | rfl | rfl | rfl | rfl | rfl | rfl | rfl | rfl | rfl | rfl | rfl | rfl | rfl | rfl | rfl | rfl
    all_goals decide
  · have HD : formD c = (0, 0) := by
      unfold formD; rw [if_neg (by omega), if_neg (by omega), if_neg (by omega), if_neg (by omega), if_neg (by omega), if_neg (by omega), if_neg (by omega), if_neg (by omega), if_neg (by omega), if_neg (by omega), if_neg (by omega), if_neg (by omega), if_neg (by omega), if_neg (by omega), if_neg (by omega), if_neg (by omega), if_neg (by omega), if_neg (by omega), if_neg (by omega), if_neg (by omega)]
    rw [HD]; exact Or.inl ⟨rfl, rfl⟩
theorem argD3 {c : Int} {w : Nat} {A : List Int} {sg : Bool} (hsg : decide (208 ≤ c ∧ c ≤ 211) = sg) (hc : c ≤ 211) (hA : A.length = w) (h0 : 0 ≤ beN A) : argD c 3 w A = if argOk sg A = true then .ok (3, argN sg A, w + 1) else .error 2 := by
  unfold argD
  rw [if_neg (by decide), if_neg (by decide), if_pos rfl]
  cases sg with
  | true =>
    have h := of_decide_eq_true hsg
    rw [if_pos h.1]
    unfold argOk argN
    simp only [if_true, hA, decide_eq_true_eq]
  | false =>
    have h := of_decide_eq_false hsg
    rw [if_neg (fun hh => h ⟨hh, hc⟩)]
    unfold argOk argN
    simp only [Bool.false_eq_true, if_false, decide_eq_true_eq]
    by_cases hb : beN A ≤ 1000000000000000
    · rw [if_pos hb, if_pos hb, Go.IntWalk.wrap64_in _ ⟨by omega, by omega⟩]
    · rw [if_neg hb, if_neg hb]
theorem beN_lt (A : List Int) (hu : ∀ x ∈ A, U8 x) : 0 ≤ beN A ∧ beN A < 256 ^ A.length := by
  refine ⟨beF_nonneg A 0 (Int.le_refl _) hu, ?_⟩
  have := beF_lt A 0 1 (Int.le_refl _) (by decide) hu
  rw [Int.one_mul] at this; exact this
set_option maxHeartbeats 8000000 in
theorem impl_GetMark (bs : List Int) (a : Option Addr) (cap B : Nat) (p : Int) (w : World) (hr : Rd EByte 1 w B a cap bs) (hB : B ≤ w.heap.size) (hp : I64 p) (hl : bs.length ≤ 1099511627776) :
    Calls Tryz.prog 129 #[.slice a bs.length cap, .int .i64 p] w fun ee w' => ee = .returned (.tuple #[.agg (cM (getM bs p).1.1 (getM bs p).1.2), .int .i64 (getM bs p).2.1, .int .i64 (getM bs p).2.2]) ∧ Below w.heap.size w w' := by
  obtain ⟨hp0, hp1⟩ := hp
  obtain ⟨hlc, hcap⟩ := hr.len
  have HU := Lib.hid hr.u8
  have HR := Lib.hid hr; clear hr
  have q0 := Is.new w (cM 0 0) 65
  have ff := fun i => q0.frozen i
  obtain ⟨z0, z1⟩ := q0.cells2
  have lg : w.heap.size < (w.alloc (.cells (cM 0 0) 65)).heap.size := by simp
  by_cases hin : 0 ≤ p ∧ p < bs.length
  case neg =>
    have HD := Lib.hid (show getM bs p = ((0, 0), 0, 1) from if_neg hin)
    rw [HD.out]; clear HD
    have HE := Lib.hid (show decide (((0 : Int) ≤ 1 ∧ (1 : Int) ≤ bs.length) ∧ (0 ≤ p ∧ p ≤ (bs.length : Int) - 1)) = false from decide_eq_false (by omega))
    clear hin
    go_enter Tryz.func129, Tryz.ntmps129
    go_wp2_with fail
    refine (impl_exist a bs.length cap p 1 _ hl ⟨by decide, by decide⟩).mono ?_
    rintro ee w2 ⟨rfl, hb2⟩
    rw [HE.out]
    have p2 := q0.below hb2 lg
    have f2 := fun i => p2.frozen i
    have hs2 : w.heap.size < w2.heap.size := p2.lt
    have HB2 := Lib.hid ((below1 w _).trans (hb2.mono (by simp)))
    obtain ⟨y0, y1⟩ := p2.cells2
    clear z0 z1 ff hb2
    go_wp2_with fail
    obtain ⟨e0, e1⟩ := ((p2.set 0 (.int .i64 0)).set 1 (.int .i64 0)).cells2
    refine bodyPost_ret (v := .tuple #[.agg (cM 0 0), .int .i64 0, .int .i64 1]) (by simp [results, Tryz.results129, go_sem, e0, e1]) rfl ⟨rfl, HB2.out.trans ((below2s _ _ _ _).mono (Nat.le_refl _))⟩
  obtain ⟨j, rfl⟩ : ∃ j : Nat, p = j := ⟨p.toNat, by omega⟩
  have hj : j < bs.length := by omega
  have HE := Lib.hid (show decide (((0 : Int) ≤ 1 ∧ (1 : Int) ≤ bs.length) ∧ (0 ≤ (j : Int) ∧ (j : Int) ≤ (bs.length : Int) - 1)) = true from decide_eq_true (by omega))
  have HGS := Lib.hid (fun (k n : Int) (h : shortD bs[j] = some (k, n)) => getM_short hj h)
  have HGF := Lib.hid (fun (h : shortD bs[j] = none) hf => getM_form hj h hf)
  have HGA := Lib.hid (fun (h : shortD bs[j] = none) hk hw => getM_arg hj h hk hw)
  have HFC := Lib.hid (formD_cases bs[j])
  obtain ⟨b, o, hae, hbl, hcell, hx0, hx1⟩ := HR.out.byte j hj
  subst hae
  obtain ⟨c, hc⟩ : ∃ c, bs[j] = c := ⟨_, rfl⟩
  rw [hc] at HGS HGF HGA HFC hx0 hx1 hcell
  have HCC := Lib.hid hc; clear hc hin hp0 hp1
  obtain ⟨G, hG⟩ : ∃ G, getM bs (j : Int) = G := ⟨_, rfl⟩
  rw [hG] at HGS HGF HGA ⊢
  clear hG
  have hltz : (j : Int) < (bs.length : Int) := by omega
  go_enter Tryz.func129, Tryz.ntmps129
  go_wp2_with fail
  refine (impl_exist (some ⟨b, o, none⟩) bs.length cap (j : Int) 1 _ hl ⟨by decide, by decide⟩).mono ?_
  rintro ee w2 ⟨rfl, hb2⟩
  rw [HE.out]
  have Q2 := Lib.hid (q0.below hb2 lg)
  have hs2 : w.heap.size < w2.heap.size := Q2.out.lt
  have HB2 := Lib.hid ((below1 w _).trans (hb2.mono (by simp)))
  have hc2 : w2.cell? ⟨b, o + j, none⟩ = some (.int .u8 c) := (World.cell?_of_block (HB2.out.block b (by omega))).trans hcell
  have hlb2 : b < w2.heap.size := by omega
  clear z0 z1 ff hb2 q0 lg hcell HE
  go_wp2_with fail
  refine (impl_shortMark c w2 hx0 hx1).mono ?_
  rintro ee w3 ⟨rfl, hb3⟩
  have hs3 := hb3.size
  have HB3 := Lib.hid (HB2.out.trans (hb3.mono (by omega)))
  have Q3 := Lib.hid (Q2.out.below hb3 (by omega))
  have hc3 : w3.cell? ⟨b, o + j, none⟩ = some (.int .u8 c) := (World.cell?_of_block (hb3.block b (by omega))).trans hc2
  clear hb3 hc2 Q2 HB2
  have hlb3 : b < w3.heap.size := by omega
  cases hsd : shortD c with
  | some kn =>
    obtain ⟨k, n⟩ := kn
    have HG := Lib.hid (HGS.out k n hsd)
    have hr0 := Is.new w3 (cM k n) 65
    obtain ⟨m0, m1⟩ := hr0.cells2
    have f3 := fun i => Q3.out.frozen i
    have hs3' : w.heap.size < w3.heap.size := by omega
    obtain ⟨y0, y1⟩ := Q3.out.cells2
    simp only [Option.getD_some, Option.isSome_some]
    go_wp2_with fail
    obtain ⟨e0, e1⟩ := (((Q3.out.set 0 (.int .i64 k)).set 1 (.int .i64 n)).alloc (.cells (cM k n) 65)).cells2
    refine bodyPost_ret (v := .tuple #[.agg (cM k n), .int .i64 ((j : Int) + 1), .int .i64 0]) (by simp [results, Tryz.results129, go_sem, e0, e1]) rfl ⟨by rw [HG.out], (HB3.out.trans ((below2s w3 w.heap.size _ _).mono (Nat.le_refl _))).trans ((below1 _ _).mono (by simp only [size_set]; omega))⟩
  | none =>
    have hr0 := Is.new w3 (cM 0 0) 65
    obtain ⟨m0, m1⟩ := hr0.cells2
    have Q4 := Lib.hid (Q3.out.alloc (.cells (cM 0 0) 65))
    have HB4 := Lib.hid (HB3.out.trans ((below1 w3 (.cells (cM 0 0) 65)).mono (by omega)))
    have hc4 : (w3.alloc (.cells (cM 0 0) 65)).cell? ⟨b, o + j, none⟩ = some (.int .u8 c) := (World.cell?_of_block ((below1 w3 _).block b hlb3)).trans hc3
    have HF := Lib.hid (HGF.out hsd); have HA := Lib.hid (HGA.out hsd)
    clear HGF HGA HGS hc3 Q3 HB3
    simp only [Option.getD_none, Option.isSome_none]
    go_wp2_with fail
    generalize w3.alloc (.cells (cM 0 0) 65) = w4 at *
    refine (impl_markForm c w4 hx0 hx1).mono ?_
    rintro ee w5 ⟨rfl, hb5⟩
    have hs4 : w.heap.size < w4.heap.size := Q4.out.lt
    have hs5 := hb5.size
    have HB5 := Lib.hid (HB4.out.trans (hb5.mono (by omega)))
    have Q5 := Lib.hid (Q4.out.below hb5 (by omega))
    have hc5 : w5.cell? ⟨b, o + j, none⟩ = some (.int .u8 c) := (World.cell?_of_block (hb5.block b (by omega))).trans hc4
    have hlb5 : b < w5.heap.size := by omega
    clear hc4 Q4 HB4 m0 m1 hr0 hb5
    obtain ⟨kd, wd, hkw⟩ : ∃ kd wd, formD c = (kd, wd) := ⟨_, _, rfl⟩
    rw [hkw] at HF HA HFC ⊢
    dsimp only at HF HA HFC ⊢
    clear hkw
    by_cases hk0 : kd = 0
    · subst hk0
      have HG := Lib.hid (HF.out (Or.inl rfl))
      have f5 := fun i => Q5.out.frozen i
      obtain ⟨y0, y1⟩ := Q5.out.cells2
      have l5 := Q5.out.lt
      go_wp2_with fail
      obtain ⟨e0, e1⟩ := ((Q5.out.set 0 (.int .i64 0)).set 1 (.int .i64 0)).cells2
      refine bodyPost_ret (v := .tuple #[.agg (cM 0 0), .int .i64 0, .int .i64 1]) (by simp [results, Tryz.results129, go_sem, e0, e1]) rfl ⟨by rw [HG.out], HB5.out.trans ((below2s _ _ _ _).mono (Nat.le_refl _))⟩
    have hk0b : (kd == 0) = false := by simpa using hk0
    obtain ⟨J, hJ⟩ : ∃ J, j + 1 = J := ⟨_, rfl⟩
    have hji : (j : Int) + 1 = (J : Int) := by omega
    have HK0 := Lib.hid hk0; clear hk0
    rw [hJ] at HF HA
    have hJl : J ≤ bs.length := by omega
    have hwd8 : wd ≤ 8 := by have := HFC.out; omega
    by_cases hw : wd ≤ bs.length - J
    case neg =>
      have HG := Lib.hid (HF.out (Or.inr (by omega)))
      have HE := Lib.hid (show decide (((0 : Int) ≤ (wd : Int) ∧ (wd : Int) ≤ bs.length) ∧ (0 ≤ (J : Int) ∧ (J : Int) ≤ (bs.length : Int) - wd)) = false from decide_eq_false (by omega))
      clear hw
      go_wp2_with fail
      refine (impl_exist (some ⟨b, o, none⟩) bs.length cap (J : Int) wd _ hl ⟨by omega, by omega⟩).mono ?_
      rintro ee w6 ⟨rfl, hb6⟩
      rw [HE.out]
      have Q6 := Lib.hid (Q5.out.below hb6 (by omega))
      have HB6 := Lib.hid (HB5.out.trans (hb6.mono (by omega)))
      have f5 := fun i => Q6.out.frozen i
      obtain ⟨y0, y1⟩ := Q6.out.cells2
      have l5 := Q6.out.lt
      go_wp2_with fail
      obtain ⟨e0, e1⟩ := ((Q6.out.set 0 (.int .i64 0)).set 1 (.int .i64 0)).cells2
      refine bodyPost_ret (v := .tuple #[.agg (cM 0 0), .int .i64 0, .int .i64 1]) (by simp [results, Tryz.results129, go_sem, e0, e1]) rfl ⟨by rw [HG.out], HB6.out.trans ((below2s _ _ _ _).mono (Nat.le_refl _))⟩
    have HE := Lib.hid (show decide (((0 : Int) ≤ (wd : Int) ∧ (wd : Int) ≤ bs.length) ∧ (0 ≤ (J : Int) ∧ (J : Int) ≤ (bs.length : Int) - wd)) = true from decide_eq_true (by omega))
    have hwp : 0 < wd := by have := HFC.out; have := HK0.out; omega
    obtain ⟨E, hE⟩ : ∃ E, J + wd = E := ⟨_, rfl⟩
    have hei : (J : Int) + (wd : Int) = (E : Int) := by omega
    have hEl : E ≤ bs.length := by omega
    have hJE : J < E := by omega
    have hEJ : E - J = wd := by omega
    have HG := Lib.hid (HA.out HK0.out hw)
    obtain ⟨sg, hsg⟩ : ∃ sg, decide (208 ≤ c ∧ c ≤ 211) = sg := ⟨_, rfl⟩
    have HSG := Lib.hid hsg; clear hsg
    have hlen : ((bs.drop J).take wd).length = wd := by rw [List.length_take, List.length_drop]; omega
    have HARG := Lib.hid (fun (W : World) (hR : Rd EByte 1 W B (some ⟨b, o, none⟩) cap bs) (hWB : B ≤ W.heap.size) => (show Calls Tryz.prog 176 #[.slice (some ⟨b, o + J, none⟩) wd (cap - J), .bool sg] W fun ee w' => ee = .returned (.tuple #[.int .i64 (argN sg ((bs.drop J).take wd)), .bool (argOk sg ((bs.drop J).take wd))]) ∧ w' = W from by
      have := impl_argumentQ ((bs.drop J).take wd) (some ⟨b, o + J, none⟩) (cap - J) B sg W (hR.mid J wd (cap - J) (by omega) (by omega) (by unfold maxLen; omega)) hWB (by rw [hlen]; have := HFC.out; have := HK0.out; omega)
      rw [hlen] at this; exact this))
    have HLEN := Lib.hid hlen
    have HHE := Lib.hid hE; have HHJ := Lib.hid hJ; have HEJ := Lib.hid hEJ
    clear hw hlen hE hJ HA HF hJl
    go_wp2_with fail
    refine (impl_exist (some ⟨b, o, none⟩) bs.length cap (J : Int) wd _ hl ⟨by omega, by omega⟩).mono ?_
    rintro ee w6 ⟨rfl, hb6⟩
    rw [HE.out]
    have hs6 := hb6.size
    have Q6 := Lib.hid (Q5.out.below hb6 (by omega))
    have HB6 := Lib.hid (HB5.out.trans (hb6.mono (by omega)))
    have hlb6 : b < w6.heap.size := by omega
    clear hc5 Q5 HB5 hb6 HE
    go_upto_region 11 with (fail)
    have hJC : ¬ cap = J := by omega
    have hI0 : (0 : Int) ≤ (J : Int) := by omega
    have hI1 : (J : Int) ≤ (E : Int) := by omega
    have hJw : IntKind.i64.wrap (J : Int) = (J : Int) := by rw [Go.IntWalk.i64_left, Go.IntWalk.wrap64_in _ ⟨by omega, by omega⟩]
    have hEJv := HEJ.out
    have hJE2 : J ≤ E := by omega
    have hEc2 : E ≤ cap := by omega
    go_quiet (first | (go_at_call 104; exact Calls.quiet_of_same ((impl_withinE _ _ _ _).mono (fun e w' h => ⟨h.1.trans (congrArg Ending.returned (congrArg Value.bool HSG.out)), h.2⟩))) | (go_at_call 176; exact Calls.quiet_of_same (HARG.out _ ((HR.out.below EByte.loc (HB6.out.trans (below_drewN _ _ _)) hB)) (Nat.le_trans hB (HB6.out.trans (below_drewN _ _ _)).size))))
    have Q7 := Lib.hid (Q6.out.agree (w' := w6.drewN nq) rfl)
    have HB7 := Lib.hid (HB6.out.trans (below_drewN w.heap.size w6 nq))
    have hlb7 : b < (w6.drewN nq).heap.size := hlb6
    clear Q6 HB6 hlb6 hs6
    generalize w6.drewN nq = w7 at *
    have HAU := Lib.hid (show ∀ x ∈ (bs.drop J).take wd, U8 x from fun x hx => HU.out x (List.mem_of_mem_drop (List.mem_of_mem_take hx)))
    have HA0 := Lib.hid (show 0 < wd → ((bs.drop J).take wd).getD 0 0 = bs.getD J 0 from fun h => by simp [List.getD_eq_getElem?_getD, List.getElem?_take, List.getElem?_drop, h])
    have HA1 := Lib.hid (show 1 < wd → ((bs.drop J).take wd).getD 1 0 = bs.getD (J + 1) 0 from fun h => by simp [List.getD_eq_getElem?_getD, List.getElem?_take, List.getElem?_drop, h])
    have HRD7 := Lib.hid (HR.out.below EByte.loc HB7.out hB)
    clear HARG
    obtain ⟨A, hA⟩ : ∃ A, (bs.drop J).take wd = A := ⟨_, rfl⟩
    rw [hA] at HG HAU HLEN HA0 HA1 ⊢
    clear hA
    have HBN := Lib.hid (beN_lt A HAU.out)
    have hnb := HBN.out.1
    have HEL := Lib.hid hEl
    clear hI0 hI1 hJw hEJv hJE2 hEc2 hJC hei hJE hEl
    rcases HFC.out with ⟨h, _⟩ | ⟨rfl, hcr, _⟩ | ⟨rfl, rfl, rfl⟩ | ⟨rfl, rfl, rfl⟩ | ⟨hk, hcr, hwd⟩
    · exact absurd h HK0.out
    · have HD := Lib.hid (argD3 HSG.out hcr.2 HLEN.out hnb)
      rw [HD.out] at HG
      obtain ⟨ok, hok⟩ : ∃ ok, argOk sg A = ok := ⟨_, rfl⟩
      rw [hok] at HG ⊢
      obtain ⟨n, hn⟩ : ∃ n, argN sg A = n := ⟨_, rfl⟩
      rw [hn] at HG ⊢
      clear hok hn HD
      cases ok with
      | true =>
        have HGN := Lib.hid (show G = ((3, n), (E : Int), 0) from by rw [HG.out]; simp only [if_true]; rw [← HHE.out, ← HHJ.out]; simp; omega)
        clear HG
        have f7 := fun i => Q7.out.frozen i
        obtain ⟨y0, y1⟩ := Q7.out.cells2
        have l7 := Q7.out.lt
        go_wp2_with fail
        obtain ⟨e0, e1⟩ := ((Q7.out.set 0 (.int .i64 3)).set 1 (.int .i64 n)).cells2
        refine bodyPost_ret (v := .tuple #[.agg (cM 3 n), .int .i64 (E : Int), .int .i64 0]) (by simp [results, Tryz.results129, go_sem, e0, e1]) rfl ⟨by rw [HGN.out], HB7.out.trans ((below2s _ _ _ _).mono (Nat.le_refl _))⟩
      | false =>
        have HGN := Lib.hid (show G = ((0, 0), 0, 2) from by rw [HG.out]; simp)
        clear HG
        have f7 := fun i => Q7.out.frozen i
        obtain ⟨y0, y1⟩ := Q7.out.cells2
        have l7 := Q7.out.lt
        go_wp2_with fail
        obtain ⟨e0, e1⟩ := ((Q7.out.set 0 (.int .i64 0)).set 1 (.int .i64 0)).cells2
        refine bodyPost_ret (v := .tuple #[.agg (cM 0 0), .int .i64 0, .int .i64 2]) (by simp [results, Tryz.results129, go_sem, e0, e1]) rfl ⟨by rw [HGN.out], HB7.out.trans ((below2s _ _ _ _).mono (Nat.le_refl _))⟩
    · obtain rfl : sg = false := by rw [← HSG.out]; decide
      have hn2 := HBN.out.2
      rw [HLEN.out] at hn2
      have HN := Lib.hid (show argN false A = beN A from by unfold argN; simp only [Bool.false_eq_true, if_false]; exact Go.IntWalk.wrap64_in _ ⟨by omega, by omega⟩)
      rw [HN.out]
      have HGN := Lib.hid (show G = (match (if (bitsFltD (beN A)).2 = true then (.ok (4, fltBitsD (bitsFltD (beN A)).1.1 (bitsFltD (beN A)).1.2, 5) : Except Int (Int × Int × Nat)) else .error 1) with | .error c => ((0, 0), 0, c) | .ok (k, n, u) => ((k, n), (j : Int) + u, 0)) from HG.out)
      clear HG
      have hI64 : I64 (beN A) := ⟨by omega, by omega⟩
      have HI := Lib.hid (bitsFltD_i64 (beN A))
      have HI64 := Lib.hid hI64
      go_wp2_with fail
      refine (impl_BitsFlt (beN A) _ HI64.out).mono ?_
      rintro ee w8 ⟨rfl, hb8⟩
      obtain ⟨⟨⟨m, x⟩, ok⟩, hbf⟩ : ∃ r, bitsFltD (beN A) = r := ⟨_, rfl⟩
      rw [hbf] at HGN HI ⊢
      dsimp only at HGN HI ⊢
      clear hbf HN
      have hs8 := hb8.size
      have Q8 := Lib.hid (Q7.out.below hb8 Q7.out.lt)
      have HB8 := Lib.hid (HB7.out.trans (hb8.mono (Nat.le_of_lt Q7.out.lt)))
      have HF9 := Lib.hid (Is.new w8 (cF m x) 61)
      have Q9 := Lib.hid (Q8.out.alloc (.cells (cF m x) 61))
      have HB9 := Lib.hid (HB8.out.trans ((below1 w8 (.cells (cF m x) 61)).mono (Nat.le_of_lt Q8.out.lt)))
      cases ok with
      | false =>
        have HGM := Lib.hid (show G = ((0, 0), 0, 1) from HGN.out)
        clear HGN
        have f8 := fun i => Q8.out.frozen i
        obtain ⟨y0, y1⟩ := Q8.out.cells2
        have l8 := Q8.out.lt
        go_wp2_with fail
        obtain ⟨e0, e1⟩ := (((Q8.out.set 0 (.int .i64 0)).set 1 (.int .i64 0)).alloc (.cells (cF m x) 61)).cells2
        refine bodyPost_ret (v := .tuple #[.agg (cM 0 0), .int .i64 0, .int .i64 1]) (by simp [results, Tryz.results129, go_sem, e0, e1]) rfl ⟨by rw [HGM.out], (HB8.out.trans ((below2s w8 w.heap.size _ _).mono (Nat.le_refl _))).trans ((below1 _ _).mono (by simp only [size_set]; exact Nat.le_of_lt Q8.out.lt))⟩
      | true =>
        have HGM := Lib.hid (show G = ((4, fltBitsD m x), (E : Int), 0) from by rw [HGN.out]; simp only [if_true]; rw [← HHE.out, ← HHJ.out]; simp; omega)
        clear HGN
        go_wp2_with fail
        refine (impl_FltBits m x _ HI.out.1 HI.out.2).mono ?_
        rintro ee w10 ⟨rfl, hb10⟩
        have Q10 := Lib.hid (Q9.out.below hb10 Q9.out.lt)
        have HB10 := Lib.hid (HB9.out.trans (hb10.mono (Nat.le_of_lt Q9.out.lt)))
        clear hb10
        have HFB := Lib.hid (fltBitsD_in m x)
        generalize fltBitsD m x = fb at *
        have f10 := fun i => Q10.out.frozen i
        obtain ⟨y0, y1⟩ := Q10.out.cells2
        have l10 := Q10.out.lt
        go_wp2_with fail
        obtain ⟨e0, e1⟩ := ((Q10.out.set 0 (.int .i64 4)).set 1 (.int .i64 fb)).cells2
        refine bodyPost_ret (v := .tuple #[.agg (cM 4 fb), .int .i64 (E : Int), .int .i64 0]) (by simp [results, Tryz.results129, go_sem, e0, e1]) rfl ⟨by rw [HGM.out], HB10.out.trans ((below2s _ _ _ _).mono (Nat.le_refl _))⟩
    · obtain rfl : sg = false := by rw [← HSG.out]; decide
      obtain ⟨J2, hJ2⟩ : ∃ J2, J + 1 = J2 := ⟨_, rfl⟩
      have hJl : J < bs.length := by have := HHE.out; have := HEL.out; omega
      have hJl2 : J2 < bs.length := by have := HHE.out; have := HEL.out; omega
      have hj2 : (j : Int) + 2 = (J2 : Int) := by have := HHJ.out; omega
      obtain ⟨b1, o1, hae1, _, hcl1, hu10, hu11⟩ := HRD7.out.byte J hJl
      cases hae1
      obtain ⟨b2, o2, hae2, _, hcl2, hu20, hu21⟩ := HRD7.out.byte J2 hJl2
      cases hae2
      have HX := Lib.hid (HA0.out (by decide)); have HY := Lib.hid (HA1.out (by decide))
      rw [hJ2] at HY
      have HGN := Lib.hid (show G = (match (if A.getD 0 0 = 1 ∧ A.getD 1 0 ≤ 2 then (.ok (5, A.getD 1 0, 3) : Except Int (Int × Int × Nat)) else .error 1) with | .error c => ((0, 0), 0, c) | .ok (k, n, u) => ((k, n), (j : Int) + u, 0)) from HG.out)
      rw [HX.out, HY.out, List.getD_eq_getElem?_getD, List.getD_eq_getElem?_getD, List.getElem?_eq_getElem hJl, List.getElem?_eq_getElem hJl2, Option.getD_some, Option.getD_some] at HGN
      clear HG HX HY HA0 HA1
      generalize bs[J] = x at *
      generalize bs[J2] = y at *
      have hlj : (J : Int) < (bs.length : Int) := by omega
      have hlj2 : (J2 : Int) < (bs.length : Int) := by omega
      by_cases hx1 : x = 1
      · have hxb : (x != 1) = false := by simp [hx1]
        by_cases hy2 : y ≤ 2
        · have HGM := Lib.hid (show G = ((5, y), (E : Int), 0) from by rw [HGN.out, if_pos ⟨hx1, hy2⟩]; rw [← HHE.out, ← HHJ.out]; simp; omega)
          have hy2b : ¬ 2 < y := by omega
          clear HGN hx1 hJ2
          have f7 := fun i => Q7.out.frozen i
          obtain ⟨y0, y1⟩ := Q7.out.cells2
          have l7 := Q7.out.lt
          go_wp2_with fail
          obtain ⟨e0, e1⟩ := ((Q7.out.set 0 (.int .i64 5)).set 1 (.int .i64 y)).cells2
          refine bodyPost_ret (v := .tuple #[.agg (cM 5 y), .int .i64 (E : Int), .int .i64 0]) (by simp [results, Tryz.results129, go_sem, e0, e1]) rfl ⟨by rw [HGM.out], HB7.out.trans ((below2s _ _ _ _).mono (Nat.le_refl _))⟩
        · have HGM := Lib.hid (show G = ((0, 0), 0, 1) from by rw [HGN.out, if_neg (fun h => hy2 h.2)])
          have hy2b : 2 < y := by omega
          clear HGN hx1 hJ2
          have f7 := fun i => Q7.out.frozen i
          obtain ⟨y0, y1⟩ := Q7.out.cells2
          have l7 := Q7.out.lt
          go_wp2_with fail
          obtain ⟨e0, e1⟩ := ((Q7.out.set 0 (.int .i64 0)).set 1 (.int .i64 0)).cells2
          refine bodyPost_ret (v := .tuple #[.agg (cM 0 0), .int .i64 0, .int .i64 1]) (by simp [results, Tryz.results129, go_sem, e0, e1]) rfl ⟨by rw [HGM.out], HB7.out.trans ((below2s _ _ _ _).mono (Nat.le_refl _))⟩
      · have hxb : (x != 1) = true := by simp [hx1]
        have HGM := Lib.hid (show G = ((0, 0), 0, 1) from by rw [HGN.out, if_neg (fun h => hx1 h.1)])
        clear HGN hx1 hJ2
        have f7 := fun i => Q7.out.frozen i
        obtain ⟨y0, y1⟩ := Q7.out.cells2
        have l7 := Q7.out.lt
        go_wp2_with fail
        obtain ⟨e0, e1⟩ := ((Q7.out.set 0 (.int .i64 0)).set 1 (.int .i64 0)).cells2
        refine bodyPost_ret (v := .tuple #[.agg (cM 0 0), .int .i64 0, .int .i64 1]) (by simp [results, Tryz.results129, go_sem, e0, e1]) rfl ⟨by rw [HGM.out], HB7.out.trans ((below2s _ _ _ _).mono (Nat.le_refl _))⟩
    · obtain rfl : sg = false := by rw [← HSG.out]; exact decide_eq_false (by omega)
      have hn2 := HBN.out.2
      rw [HLEN.out] at hn2
      have hn3 : beN A < 4294967296 := by rcases hwd with rfl | rfl | rfl <;> omega
      have HN := Lib.hid (show argN false A = beN A from by unfold argN; simp only [Bool.false_eq_true, if_false]; exact Go.IntWalk.wrap64_in _ ⟨by omega, by omega⟩)
      rw [HN.out]
      have HGN := Lib.hid (show G = (match (if beN A ≤ 65535 then (.ok (kd, beN A, wd + 1) : Except Int (Int × Int × Nat)) else .error 2) with | .error c => ((0, 0), 0, c) | .ok (k, n, u) => ((k, n), (j : Int) + u, 0)) from by rw [HG.out]; unfold argD; rw [if_neg (by omega), if_neg (by omega), if_neg (by omega)])
      clear HG HN hn2
      generalize beN A = n at *
      have k5 : (kd == 5) = false := by simp; omega
      have k4 : (kd == 4) = false := by simp; omega
      have k3 : (kd == 3) = false := by simp; omega
      by_cases hb : n ≤ 65535
      · have HGM := Lib.hid (show G = ((kd, n), (E : Int), 0) from by rw [HGN.out, if_pos hb]; rw [← HHE.out, ← HHJ.out]; simp; omega)
        have hbb : ¬ 65535 < n := by omega
        clear HGN
        have f7 := fun i => Q7.out.frozen i
        obtain ⟨y0, y1⟩ := Q7.out.cells2
        have l7 := Q7.out.lt
        go_wp2_with fail
        obtain ⟨e0, e1⟩ := ((Q7.out.set 0 (.int .i64 kd)).set 1 (.int .i64 n)).cells2
        refine bodyPost_ret (v := .tuple #[.agg (cM kd n), .int .i64 (E : Int), .int .i64 0]) (by simp [results, Tryz.results129, go_sem, e0, e1]) rfl ⟨by rw [HGM.out], HB7.out.trans ((below2s _ _ _ _).mono (Nat.le_refl _))⟩
      · have HGM := Lib.hid (show G = ((0, 0), 0, 2) from by rw [HGN.out, if_neg hb])
        have hbb : 65535 < n := by omega
        clear HGN
        have f7 := fun i => Q7.out.frozen i
        obtain ⟨y0, y1⟩ := Q7.out.cells2
        have l7 := Q7.out.lt
        go_wp2_with fail
        obtain ⟨e0, e1⟩ := ((Q7.out.set 0 (.int .i64 0)).set 1 (.int .i64 0)).cells2
        refine bodyPost_ret (v := .tuple #[.agg (cM 0 0), .int .i64 0, .int .i64 2]) (by simp [results, Tryz.results129, go_sem, e0, e1]) rfl ⟨by rw [HGM.out], HB7.out.trans ((below2s _ _ _ _).mono (Nat.le_refl _))⟩
end Go.Proofs.YtohfljaaaojjmaaGreatDoor
