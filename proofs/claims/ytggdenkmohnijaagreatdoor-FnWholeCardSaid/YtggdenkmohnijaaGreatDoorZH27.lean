/- Texts of this proof, merged: RdP, TigR. No condition beyond what each theorem states. -/
import Derived.Test.YtggdenkmohnijaaGreatDoorZH25
set_option linter.unusedSimpArgs false
set_option linter.unnecessarySimpa false
namespace Go.Proofs.YtggdenkmohnijaaGreatDoor
open Go.ChangeShapes Go.WideShapes Go.ChangeAt Go.RowKit Go.Joins
set_option linter.unusedVariables false
set_option maxRecDepth 100000
theorem flt_bits {m e : Int} (h : fltOk m e) : bitsFltD (fltBitsD m e) = ((m, e), true) := by
 have hb := fltBitsD_in m e
 have hf : fltBitsD m e = 65536 * (e + 16) + m.natAbs + (if m < 0 then 16777216 else 0) := by unfold fltBitsD; rw [if_pos h]
 rcases h with ⟨rfl, rfl⟩ | ⟨h0, h1, h2, h3, h4⟩
 ·rw [hf]; rfl
 have he : e ≤ 46 := by rcases h4 with h | h <;> omega
 have hr : 0 ≤ fltBitsD m e ∧ fltBitsD m e ≤ 33554431 := by
  rcases hb with h | h
  ·rw [hf] at h; split at h <;> omega
  ·exact h
 have ha : fltBitsD m e % 65536 = m.natAbs := by rw [hf]; split <;> omega
 have hx : fltBitsD m e / 65536 % 256 - 16 = e := by rw [hf]; split <;> omega
 have hs : 16777216 ≤ fltBitsD m e ↔ m < 0 := by rw [hf]; split <;> omega
 have hm : (if 16777216 ≤ fltBitsD m e then -(fltBitsD m e % 65536) else fltBitsD m e % 65536) = m := by
  rw [ha]; split
  ·have := hs.1 ‹_›; omega
  ·have : ¬ m < 0 := fun h => ‹¬ _› (hs.2 h); omega
 unfold bitsFltD
 rw [if_pos hr, hm, hx]
 unfold fltNewD
 rw [if_neg (fun hh => hh ⟨⟨by omega, by omega⟩, by omega, by omega⟩), if_neg h0, stripE_no _ _ _ h2]
 exact if_pos (Or.inr ⟨h0, h1, h2, h3, h4⟩)
theorem pk_mark {t : T} (h : ownP t) (hs : t.s.size ≤ 65535) (hl : t.l.length ≤ 65535) (h6 : t.k ≠ 6) (h11 : t.k ≠ 11) : markOkD (markForD t).1 (markForD t).2 = true := by
 obtain ⟨k, n, x, s, l⟩ := t
 simp only [ownP, T.k, T.n, T.x, T.s, T.l] at h hs hl h6 h11
 have hk : k = 1 ∨ k = 2 ∨ k = 3 ∨ k = 4 ∨ k = 5 ∨ k = 7 ∨ k = 8 ∨ k = 9 ∨ k = 10 := by
  by_cases hr : k < 1 ∨ 11 < k
  ·exact absurd h (ownQ_out _ _ _ _ _ hr)
  ·omega
 rcases hk with rfl | rfl | rfl | rfl | rfl | rfl | rfl | rfl | rfl
 ·exact decide_eq_true ((own1 _ _ _ _).1 h).2.2.2
 ·exact decide_eq_true (show 0 ≤ n ∧ n ≤ 1 from by have := ((own2 _ _ _ _).1 h).2.2.2; omega)
 ·exact decide_eq_true ((own3 _ _ _ _).1 h).2.2.2
 ·have hf := ((own4 _ _ _ _).1 h).2.2
  show ((bitsFltD (fltBitsD n x)).2 && decide (fltBitsD (bitsFltD (fltBitsD n x)).1.1 (bitsFltD (fltBitsD n x)).1.2 = fltBitsD n x)) = true
  rw [flt_bits hf]; simp
 ·exact decide_eq_true ((own5 _ _ _ _).1 h).2.2.2
 ·exact decide_eq_true (show (0 : Int) ≤ (s.size : Int) ∧ (s.size : Int) ≤ 65535 from by omega)
 ·exact decide_eq_true (show (0 : Int) ≤ (s.size : Int) ∧ (s.size : Int) ≤ 65535 from by omega)
 ·exact decide_eq_true (show (0 : Int) ≤ (l.length : Int) ∧ (l.length : Int) ≤ 65535 from by omega)
 ·exact decide_eq_true (show (0 : Int) ≤ ((l.length / 2 : Nat) : Int) ∧ ((l.length / 2 : Nat) : Int) ≤ 65535 from by omega)
theorem pkQ_packB {t : T} (h : pkQ t) : packB t = true := by
 obtain ⟨h1, h2, h3, h4, h5, h6⟩ := h
 rw [packB_else h4 h5, h6, pk_mark h1 (by omega) (by omega) h4 h5]; rfl
theorem AllT.allB {P : T → Prop} {p : T → Bool} (hp : ∀ t, P t → p t = true) : ∀ t, AllT P t → allB p t = true := by
 apply T.ind
 intro k n x s l ih h
 rw [AllT_iff] at h
 rw [allB_eq, Bool.and_eq_true, List.all_eq_true]
 exact ⟨hp _ h.1, fun u hu => ih u hu (h.2 u hu)⟩
theorem rdMany_ok (f : List Int → Except Int (T × Nat)) : ∀ (l : List T), (∀ t ∈ l, ∀ r, f (packK t ++ r) = .ok (t, (packK t).length)) → ∀ r, rdMany f l.length (packKs l ++ r) = .ok (l, (packKs l).length) := by
 intro l
 induction l with
 | nil => intro _ r; rfl
 | cons t l ih =>
  intro h r
  rw [List.length_cons, packKs, List.append_assoc, rdMany, h t (by simp)]
  simp only
  rw [List.drop_left, ih (fun u hu => h u (by simp [hu])) r]
  simp [List.length_append]
theorem rdMany_deep (f : List Int → Except Int (T × Nat)) (d : Nat) : ∀ (l : List T), (∀ t ∈ l, T.depth t ≤ d → ∀ r, f (packK t ++ r) = .ok (t, (packK t).length)) → (∀ t ∈ l, d < T.depth t → ∀ r, f (packK t ++ r) = .error 2) → d < T.depthL l → ∀ r, rdMany f l.length (packKs l ++ r) = .error 2 := by
 intro l
 induction l with
 | nil => intro _ _ h; simp [T.depthL] at h
 | cons t l ih =>
  intro h1 h2 hd r
  rw [List.length_cons, packKs, List.append_assoc, rdMany]
  by_cases ht : d < T.depth t
  ·rw [h2 t (by simp) ht]
  ·rw [h1 t (by simp) (by omega)]
   simp only
   rw [List.drop_left, ih (fun u hu => h1 u (by simp [hu])) (fun u hu => h2 u (by simp [hu])) (by simp only [T.depthL] at hd; omega) r]
theorem rdP_mark (d : Nat) {k n x : Int} {s : ByteArray} {l : List T} (hm : markOkD (markForD (.mk k n x s l)).1 (markForD (.mk k n x s l)).2 = true) (b r : List Int) (hb : b = if k = 7 ∨ k = 8 then byteL s else if k = 9 ∨ k = 10 then packKs l else []) :
  markR (packK (.mk k n x s l) ++ r) = .ok ((markForD (.mk k n x s l)).1, (markForD (.mk k n x s l)).2, (markL (markForD (.mk k n x s l)).1 (markForD (.mk k n x s l)).2).length) ∧
  (packK (.mk k n x s l) ++ r).drop (markL (markForD (.mk k n x s l)).1 (markForD (.mk k n x s l)).2).length = b ++ r ∧ (packK (.mk k n x s l)).length = (markL (markForD (.mk k n x s l)).1 (markForD (.mk k n x s l)).2).length + b.length := by
 have e : packK (.mk k n x s l) = markL (markForD (.mk k n x s l)).1 (markForD (.mk k n x s l)).2 ++ b := by rw [packK, if_neg (by rw [hm]; decide), hb]
 rw [e, List.append_assoc]
 exact ⟨markR_ok hm _, List.drop_left .., by rw [List.length_append]⟩
theorem own_kinds {k n x : Int} {s : ByteArray} {m : Nat} (h : ownQ k n x s m) : k = 1 ∨ k = 2 ∨ k = 3 ∨ k = 4 ∨ k = 5 ∨ k = 6 ∨ k = 7 ∨ k = 8 ∨ k = 9 ∨ k = 10 ∨ k = 11 := by
 by_cases hr : k < 1 ∨ 11 < k
 ·exact absurd h (ownQ_out _ _ _ _ _ hr)
 ·omega
theorem rdP_both : ∀ t : T, allB ownB t = true → allB packB t = true → ∀ d, (T.depth t ≤ d → ∀ r, rdP d (packK t ++ r) = .ok (t, (packK t).length)) ∧ (d < T.depth t → ∀ r, rdP d (packK t ++ r) = .error 2) := by
 apply T.ind
 intro k n x s l ih ho hp d
 rw [allB_eq, Bool.and_eq_true, List.all_eq_true] at ho hp
 have hq : ownQ k n x s l.length := of_decide_eq_true ho.1
 have hb := hp.1
 have h6 : k ≠ 6 := by rintro rfl; rw [packB_6 (t := .mk 6 n x s l) rfl] at hb; cases hb
 have h11 : k ≠ 11 := by rintro rfl; rw [packB_11 (t := .mk 11 n x s l) rfl] at hb; cases hb
 rw [packB_else (t := .mk k n x s l) h6 h11, Bool.and_eq_true] at hb
 have hm := hb.2
 have hdep : T.depth (.mk k n x s l) = T.depthL l + 1 := by simp [T.depth]
 rw [hdep]
 cases d with
 | zero => exact ⟨fun h => by omega, fun _ r => rfl⟩
 | succ d =>
  have hch : ∀ t ∈ l, (T.depth t ≤ d → ∀ r, rdP d (packK t ++ r) = .ok (t, (packK t).length)) ∧ (d < T.depth t → ∀ r, rdP d (packK t ++ r) = .error 2) := fun t ht => ih t ht (ho.2 t ht) (hp.2 t ht) d
  rcases own_kinds hq with rfl | rfl | rfl | rfl | rfl | rfl | rfl | rfl | rfl | rfl | rfl
  ·obtain ⟨h1, h2, h3, h4⟩ := (own1 _ _ _ _).1 hq
   obtain rfl := bytes_nil h1; obtain rfl := List.length_eq_zero_iff.1 h3; subst h2
   refine ⟨fun _ r => ?_, fun h => by simp [T.depthL] at h⟩
   obtain ⟨g1, g2, g3⟩ := rdP_mark d hm [] r rfl
   rw [rdP, g1, g3]; rfl
  ·obtain ⟨h1, h2, h3, h4⟩ := (own2 _ _ _ _).1 hq
   obtain rfl := bytes_nil h1; obtain rfl := List.length_eq_zero_iff.1 h3; subst h2
   refine ⟨fun _ r => ?_, fun h => by simp [T.depthL] at h⟩
   obtain ⟨g1, g2, g3⟩ := rdP_mark d hm [] r rfl
   rw [rdP, g1, g3]; rfl
  ·obtain ⟨h1, h2, h3, h4⟩ := (own3 _ _ _ _).1 hq
   obtain rfl := bytes_nil h1; obtain rfl := List.length_eq_zero_iff.1 h3; subst h2
   refine ⟨fun _ r => ?_, fun h => by simp [T.depthL] at h⟩
   obtain ⟨g1, g2, g3⟩ := rdP_mark d hm [] r rfl
   rw [rdP, g1, g3]; rfl
  ·obtain ⟨h1, h3, h4⟩ := (own4 _ _ _ _).1 hq
   obtain rfl := bytes_nil h1; obtain rfl := List.length_eq_zero_iff.1 h3
   refine ⟨fun _ r => ?_, fun h => by simp [T.depthL] at h⟩
   obtain ⟨g1, g2, g3⟩ := rdP_mark d hm [] r rfl
   rw [rdP, g1, g3]
   have e : (markForD (.mk 4 n x ⟨#[]⟩ [])) = (4, fltBitsD n x) := rfl
   rw [e]
   simp only [if_pos, flt_bits h4, List.length_nil, Nat.add_zero]
  ·obtain ⟨h1, h2, h3, h4⟩ := (own5 _ _ _ _).1 hq
   obtain rfl := bytes_nil h1; obtain rfl := List.length_eq_zero_iff.1 h3; subst h2
   refine ⟨fun _ r => ?_, fun h => by simp [T.depthL] at h⟩
   obtain ⟨g1, g2, g3⟩ := rdP_mark d hm [] r rfl
   rw [rdP, g1, g3]; rfl
  ·exact absurd rfl h6
  ·obtain ⟨h1, h2, h3, h4⟩ := (own7 _ _ _ _).1 hq
   obtain rfl := List.length_eq_zero_iff.1 h2; subst h1; subst h3
   refine ⟨fun _ r => ?_, fun h => by simp [T.depthL] at h⟩
   obtain ⟨g1, g2, g3⟩ := rdP_mark d hm (byteL s) r rfl
   rw [rdP, g1, g3]
   have e : (markForD (.mk 7 0 0 s [])) = (7, (s.size : Int)) := rfl
   rw [e] at g2 g3 ⊢
   dsimp only at g2 g3 ⊢
   rw [if_neg (by decide), if_pos (Or.inl rfl), g2, List.length_append, g3, Int.toNat_natCast, byteL_len, if_neg (by omega), List.take_append_of_le_length (by rw [byteL_len]; exact Nat.le_refl _), List.take_of_length_le (by rw [byteL_len]; exact Nat.le_refl _), byteL_str, if_neg (by rw [h4]; simp)]
  ·obtain ⟨h1, h2, h3⟩ := (own8 _ _ _ _).1 hq
   obtain rfl := List.length_eq_zero_iff.1 h2; subst h1; subst h3
   refine ⟨fun _ r => ?_, fun h => by simp [T.depthL] at h⟩
   obtain ⟨g1, g2, g3⟩ := rdP_mark d hm (byteL s) r rfl
   rw [rdP, g1, g3]
   have e : (markForD (.mk 8 0 0 s [])) = (8, (s.size : Int)) := rfl
   rw [e] at g2 g3 ⊢
   dsimp only at g2 g3 ⊢
   rw [if_neg (by decide), if_pos (Or.inr rfl), g2, List.length_append, g3, Int.toNat_natCast, byteL_len, if_neg (by omega), List.take_append_of_le_length (by rw [byteL_len]; exact Nat.le_refl _), List.take_of_length_le (by rw [byteL_len]; exact Nat.le_refl _), byteL_str, if_neg (by simp)]
  ·obtain ⟨h1, h2, h3⟩ := (own9 _ _ _ _).1 hq
   obtain rfl := bytes_nil h1; subst h2; subst h3
   have e : (markForD (.mk 9 0 0 ⟨#[]⟩ l)) = (9, (l.length : Int)) := rfl
   refine ⟨fun h r => ?_, fun h r => ?_⟩
   ·obtain ⟨g1, g2, g3⟩ := rdP_mark d hm (packKs l) r rfl
    rw [rdP, g1, g3]
    rw [e] at g2 g3 ⊢
    dsimp only at g2 g3 ⊢
    rw [if_neg (by decide), if_neg (by decide), if_pos (Or.inl rfl), if_neg (by decide), g2, Int.toNat_natCast, rdMany_ok _ _ (fun t ht => (hch t ht).1 (by obtain ⟨i, hi, rfl⟩ := mem_get ht; have := T.depth_get l i hi; omega))]
   ·obtain ⟨g1, g2, g3⟩ := rdP_mark d hm (packKs l) r rfl
    rw [rdP, g1]
    rw [e] at g2 ⊢
    dsimp only at g2 ⊢
    rw [if_neg (by decide), if_neg (by decide), if_pos (Or.inl rfl), if_neg (by decide), g2, Int.toNat_natCast, rdMany_deep _ d _ (fun t ht => (hch t ht).1) (fun t ht => (hch t ht).2) (by omega)]
  ·obtain ⟨h1, h2, h3, h4⟩ := (own10 _ _ _ _).1 hq
   obtain rfl := bytes_nil h1; subst h2; subst h3
   have e : (markForD (.mk 10 0 0 ⟨#[]⟩ l)) = (10, ((l.length / 2 : Nat) : Int)) := rfl
   have e2 : 2 * (l.length / 2) = l.length := by omega
   refine ⟨fun h r => ?_, fun h r => ?_⟩
   ·obtain ⟨g1, g2, g3⟩ := rdP_mark d hm (packKs l) r rfl
    rw [rdP, g1, g3]
    rw [e] at g2 g3 ⊢
    dsimp only at g2 g3 ⊢
    rw [if_neg (by decide), if_neg (by decide), if_pos (Or.inr rfl), if_pos rfl, g2, Int.toNat_natCast, e2, rdMany_ok _ _ (fun t ht => (hch t ht).1 (by obtain ⟨i, hi, rfl⟩ := mem_get ht; have := T.depth_get l i hi; omega))]
   ·obtain ⟨g1, g2, g3⟩ := rdP_mark d hm (packKs l) r rfl
    rw [rdP, g1]
    rw [e] at g2 ⊢
    dsimp only at g2 ⊢
    rw [if_neg (by decide), if_neg (by decide), if_pos (Or.inr rfl), if_pos rfl, g2, Int.toNat_natCast, e2, rdMany_deep _ d _ (fun t ht => (hch t ht).1) (fun t ht => (hch t ht).2) (by omega)]
  ·exact absurd rfl h11
def wideD (i : Int) : Nat := if i = 24 then 1 else if i = 25 then 2 else if i = 26 then 4 else 8
theorem wideD_in (i : Int) : wideD i = 1 ∨ wideD i = 2 ∨ wideD i = 4 ∨ wideD i = 8 := by
 unfold wideD
 split
 ·exact Or.inl rfl
 split
 ·exact Or.inr (Or.inl rfl)
 split
 ·exact Or.inr (Or.inr (Or.inl rfl))
 ·exact Or.inr (Or.inr (Or.inr rfl))
def rdH : List Int → Except Int ((Int × Int × Int) × Nat)
 | [] => .error 1
 | c :: r =>
  if c % 32 < 24 then .ok ((c / 32, c % 32, 0), 1)
  else if c % 32 = 31 then (if c / 32 = 0 ∨ c / 32 = 1 ∨ c / 32 = 6 then .error 1 else .ok ((c / 32, 0, -1), 1))
  else if 27 < c % 32 ∨ r.length < wideD (c % 32) then .error 1
  else if beN (r.take (wideD (c % 32))) ≤ 1000000000000000 then .ok ((c / 32, beN (r.take (wideD (c % 32))), wideD (c % 32)), wideD (c % 32) + 1)
  else .error 2
def rdStr (mj n : Int) (l : List Int) : Except Int (List Int × Nat) :=
 if (l.length : Int) < n then .error 1
 else if mj = 3 ∧ Lib.validD (strOfNums (l.take n.toNat)).data.toList = false then .error 1
 else .ok (l.take n.toNat, n.toNat)
def rdParts (mj : Int) : Nat → List Int → Except Int (List Int × Nat)
 | 0, _ => .error 1
 | f + 1, l =>
  if l.getD 0 0 = 255 then .ok ([], 1)
  else match rdH l with
  | .error c => .error c
  | .ok ((m, n, w), u) =>
   if m ≠ mj ∨ w = -1 then .error 1
   else match rdStr m n (l.drop u) with
   | .error c => .error c
   | .ok (s, v) =>
    match rdParts mj f ((l.drop u).drop v) with
    | .error c => .error c
    | .ok (s2, v2) => .ok (s ++ s2, u + v + v2)
def rdOpen (g : List Int → Except Int (T × Nat)) (o : Bool) : Bool → Nat → List Int → Except Int (List T × Nat)
 | _, 0, _ => .error 1
 | p, f + 1, l =>
  if l.getD 0 0 = 255 then (if o = true ∧ p = true then .error 1 else .ok ([], 1))
  else match g l with
  | .error c => .error c
  | .ok (t, u) =>
   match rdOpen g o (!p) f (l.drop u) with
   | .error c => .error c
   | .ok (ts, v) => .ok (t :: ts, u + v)
def rdSimple (n w : Int) : Except Int T :=
 if w = 0 ∧ (n = 20 ∨ n = 21) then .ok (.mk 2 (n - 20) 0 ⟨#[]⟩ [])
 else if w = 0 ∧ n = 22 then .ok (.mk 1 0 0 ⟨#[]⟩ [])
 else if w = 1 ∧ 32 ≤ n ∧ n ≤ 34 then .ok (.mk 5 (n - 32) 0 ⟨#[]⟩ [])
 else if w = 4 ∧ (bitsFltD n).2 = true then .ok (.mk 4 (bitsFltD n).1.1 (bitsFltD n).1.2 ⟨#[]⟩ [])
 else .error 1
def rdBody (g : List Int → Except Int (T × Nat)) (mj n w : Int) (l : List Int) : Except Int (T × Nat) :=
  if mj = 0 then .ok (.mk 3 n 0 ⟨#[]⟩ [], 0)
  else if mj = 1 then (if 999999999999999 < n then .error 2 else .ok (.mk 3 (-1 - n) 0 ⟨#[]⟩ [], 0))
  else if mj = 2 ∨ mj = 3 then
    (match (if w = -1 then rdParts mj (l.length + 1) l else rdStr mj n l) with
     | .error c => .error c
     | .ok (s, v) => .ok (.mk (if mj = 3 then 7 else 8) 0 0 (strOfNums s) [], v))
  else if mj = 4 ∨ mj = 5 then
    (match (if w = -1 then rdOpen g (decide (mj = 5)) false (l.length + 1) l else rdMany g (if mj = 5 then 2 * n.toNat else n.toNat) l) with
     | .error c => .error c
     | .ok (ts, v) => .ok (.mk (if mj = 5 then 10 else 9) 0 0 ⟨#[]⟩ ts, v))
  else if mj = 6 then
    (match g l with
     | .error c => .error c
     | .ok (t, v) => .ok (.mk 11 n 0 ⟨#[]⟩ [t], v))
  else (match rdSimple n w with
     | .error c => .error c
     | .ok t => .ok (t, 0))
def rdT : Nat → List Int → Except Int (T × Nat)
 | 0, _ => .error 2
 | d + 1, l =>
  match rdH l with
  | .error c => .error c
  | .ok ((mj, n, w), u) =>
   match rdBody (rdT d) mj n w (l.drop u) with
   | .error c => .error c
   | .ok (t, v) => .ok (t, u + v)
theorem beN_u8 {l : List Int} (h : ∀ x ∈ l, U8 x) : 0 ≤ beN l := beF_nonneg l 0 (Int.le_refl _) h
theorem rdH_in {l : List Int} (hu : ∀ x ∈ l, U8 x) {mj n w : Int} {u : Nat} (h : rdH l = .ok ((mj, n, w), u)) :
  (1 ≤ u ∧ u ≤ l.length) ∧ (0 ≤ mj ∧ mj ≤ 7) ∧ (0 ≤ n ∧ n ≤ 1000000000000000) ∧ ((w = 0 ∧ n ≤ 23) ∨ w = 1 ∨ w = 2 ∨ w = 4 ∨ w = 8 ∨ (w = -1 ∧ n = 0 ∧ mj ≠ 0 ∧ mj ≠ 1 ∧ mj ≠ 6)) := by
 cases l with
 | nil => cases h
 | cons c r =>
  have hc := hu c (by simp)
  obtain ⟨hc0, hc1⟩ := hc
  rw [rdH] at h
  have hl : (c :: r).length = r.length + 1 := rfl
  by_cases h1 : c % 32 < 24
  ·rw [if_pos h1] at h; cases h
   exact ⟨⟨by omega, by omega⟩, by omega, by omega, Or.inl ⟨rfl, by omega⟩⟩
  rw [if_neg h1] at h
  by_cases h2 : c % 32 = 31
  ·rw [if_pos h2] at h
   split at h
   ·cases h
   ·cases h
    exact ⟨⟨by omega, by omega⟩, by omega, by omega, by omega⟩
  rw [if_neg h2] at h
  split at h
  ·cases h
  split at h
  ·rename_i h3 h4
   have hb := beN_u8 (l := r.take (wideD (c % 32))) (fun x hx => hu x (by simp [List.mem_of_mem_take hx]))
   have hw := wideD_in (c % 32)
   cases h
   exact ⟨⟨by omega, by omega⟩, by omega, ⟨hb, h4⟩, by omega⟩
  ·cases h
theorem rdH_err {l : List Int} {c : Int} (h : rdH l = .error c) : c = 1 ∨ c = 2 := by
 cases l with
 | nil => cases h; exact Or.inl rfl
 | cons b r =>
  rw [rdH] at h
  repeat' split at h
  all_goals first | (cases h; done) | (cases h; exact Or.inl rfl) | (cases h; exact Or.inr rfl)
theorem rdH_ok {mj n w : Int} (h : headOk mj n w) (r : List Int) : rdH (headL mj n w ++ r) = .ok ((mj, n, w), (headL mj n w).length) := by
 have hI := infoD_in h
 unfold headL
 rw [if_pos h]
 obtain ⟨⟨h0, h1⟩, ⟨h2, h3⟩, h4⟩ := h
 have hq : (32 * mj + infoD n w) / 32 = mj := by omega
 have hm : (32 * mj + infoD n w) % 32 = infoD n w := by omega
 rw [List.cons_append, rdH, hq, hm]
 rcases h4 with ⟨rfl, hn⟩ | ⟨hw, hwd⟩ | ⟨rfl, rfl, hn⟩
 ·have e : infoD n 0 = n := rfl
  rw [e, if_pos (by omega)]; rfl
 ·have key : ∀ (k : Nat), w = (k : Int) → infoD n w = (if k = 1 then 24 else if k = 2 then 25 else if k = 4 then 26 else 27) → wideD (infoD n w) = k → n < 256 ^ k → ¬ infoD n w < 24 → ¬ infoD n w = 31 → ¬ 27 < infoD n w →
    (if infoD n w < 24 then (.ok ((mj, infoD n w, 0), 1) : Except Int ((Int × Int × Int) × Nat)) else if infoD n w = 31 then (if mj = 0 ∨ mj = 1 ∨ mj = 6 then .error 1 else .ok ((mj, 0, -1), 1)) else if 27 < infoD n w ∨ (bigL n w.toNat ++ r).length < wideD (infoD n w) then .error 1 else if beN ((bigL n w.toNat ++ r).take (wideD (infoD n w))) ≤ 1000000000000000 then .ok ((mj, beN ((bigL n w.toNat ++ r).take (wideD (infoD n w))), wideD (infoD n w)), wideD (infoD n w) + 1) else .error 2) = .ok ((mj, n, w), ((32 * mj + infoD n w) :: bigL n w.toNat).length) := by
   intro k hk _ hwide hlt n1 n2 n3
   have hkk : w.toNat = k := by omega
   rw [if_neg n1, if_neg n2, if_neg (by rintro (h | h); exact n3 h; rw [List.length_append, bigL_len, hwide, hkk] at h; omega), hwide, hkk, take_big, beN_id n k h2 hlt, if_pos h3, List.length_cons, bigL_len, ← hk]
  have hf := (widthD_fit n w h2 hw).2 hwd
  unfold fitW at hf
  rcases hw with rfl | rfl | rfl | rfl
  ·exact key 1 rfl rfl rfl (by omega) (show ¬ (24 : Int) < 24 by decide) (show ¬ (24 : Int) = 31 by decide) (show ¬ (27 : Int) < 24 by decide)
  ·exact key 2 rfl rfl rfl (by omega) (show ¬ (25 : Int) < 24 by decide) (show ¬ (25 : Int) = 31 by decide) (show ¬ (27 : Int) < 25 by decide)
  ·exact key 4 rfl rfl rfl (by omega) (show ¬ (26 : Int) < 24 by decide) (show ¬ (26 : Int) = 31 by decide) (show ¬ (27 : Int) < 26 by decide)
  ·exact key 8 rfl rfl rfl (by omega) (show ¬ (27 : Int) < 24 by decide) (show ¬ (27 : Int) = 31 by decide) (show ¬ (27 : Int) < 27 by decide)
 ·have e : infoD 0 (-1) = 31 := rfl
  rw [e, if_neg (by decide), if_pos rfl, if_neg (by omega)]; rfl
theorem rdH_hd {mj n : Int} (h0 : 0 ≤ mj ∧ mj ≤ 7) (h1 : 0 ≤ n ∧ n ≤ 1000000000000000) (r : List Int) : ∃ w, w ≠ -1 ∧ rdH (hdL mj n ++ r) = .ok ((mj, n, w), (hdL mj n).length) := by
 unfold hdL
 rw [headForD_ok h0 h1]
 refine ⟨if 23 < n then widthD n else 0, ?_, rdH_ok (headFor_ok h0 h1) r⟩
 have := widthD_in n h1.1
 split <;> omega
theorem rdManyT_ok (f : List Int → Except Int (T × Nat)) : ∀ (l : List T), (∀ t ∈ l, ∀ r, f (packT t ++ r) = .ok (t, (packT t).length)) → ∀ r, rdMany f l.length (packTs l ++ r) = .ok (l, (packTs l).length) := by
 intro l
 induction l with
 | nil => intro _ r; rfl
 | cons t l ih =>
  intro h r
  rw [List.length_cons, packTs, List.append_assoc, rdMany, h t (by simp)]
  simp only
  rw [List.drop_left, ih (fun u hu => h u (by simp [hu])) r]
  simp [List.length_append]
theorem rdManyT_deep (f : List Int → Except Int (T × Nat)) (d : Nat) : ∀ (l : List T), (∀ t ∈ l, T.depth t ≤ d → ∀ r, f (packT t ++ r) = .ok (t, (packT t).length)) → (∀ t ∈ l, d < T.depth t → ∀ r, f (packT t ++ r) = .error 2) → d < T.depthL l → ∀ r, rdMany f l.length (packTs l ++ r) = .error 2 := by
 intro l
 induction l with
 | nil => intro _ _ h; simp [T.depthL] at h
 | cons t l ih =>
  intro h1 h2 hd r
  rw [List.length_cons, packTs, List.append_assoc, rdMany]
  by_cases ht : d < T.depth t
  ·rw [h2 t (by simp) ht]
  ·rw [h1 t (by simp) (by omega)]
   simp only
   rw [List.drop_left, ih (fun u hu => h1 u (by simp [hu])) (fun u hu => h2 u (by simp [hu])) (by simp only [T.depthL] at hd; omega) r]
theorem rdT_step (d : Nat) {mj n w : Int} {u : Nat} {l : List Int} (h : rdH l = .ok ((mj, n, w), u)) : rdT (d + 1) l = (match rdBody (rdT d) mj n w (l.drop u) with | .error c => .error c | .ok (t, v) => .ok (t, u + v)) := by
 rw [rdT, h]
def tgQ (t : T) : Prop := ownQ t.k t.n t.x t.s t.l.length ∧ t.k ≠ 6 ∧ (t.s.size : Int) ≤ 1000000000000000 ∧ (t.l.length : Int) ≤ 1000000000000000
theorem rdT_both : ∀ t : T, AllT tgQ t → ∀ d, (T.depth t ≤ d → ∀ r, rdT d (packT t ++ r) = .ok (t, (packT t).length)) ∧ (d < T.depth t → ∀ r, rdT d (packT t ++ r) = .error 2) := by
 apply T.ind
 intro k n x s l ih ho d
 rw [AllT_iff] at ho
 obtain ⟨⟨hq, h6, hss, hll⟩, hall⟩ := ho
 simp only [T.k, T.n, T.x, T.s, T.l] at hq h6 hss hll hall
 have hdep : T.depth (.mk k n x s l) = T.depthL l + 1 := by simp [T.depth]
 rw [hdep]
 cases d with
 | zero => exact ⟨fun h => by omega, fun _ r => rfl⟩
 | succ d =>
  have hch : ∀ t ∈ l, (T.depth t ≤ d → ∀ r, rdT d (packT t ++ r) = .ok (t, (packT t).length)) ∧ (d < T.depth t → ∀ r, rdT d (packT t ++ r) = .error 2) := fun t ht => ih t ht (hall t ht) d
  have one : ∀ {mj m w : Int} {b : List Int} {t : T}, headOk mj m w → (∀ g l, rdBody g mj m w l = .ok (t, 0)) → ∀ r, rdT (d + 1) (headL mj m w ++ r) = .ok (t, (headL mj m w).length) := by
   intro mj m w b t h1 h2 r
   rw [rdT_step d (rdH_ok h1 r), h2]; rfl
  rcases own_kinds hq with rfl | rfl | rfl | rfl | rfl | rfl | rfl | rfl | rfl | rfl | rfl
  ·obtain ⟨h1, h2, h3, h4⟩ := (own1 _ _ _ _).1 hq
   obtain rfl := bytes_nil h1; obtain rfl := List.length_eq_zero_iff.1 h3; subst h2; subst h4
   refine ⟨fun _ r => ?_, fun h => by simp [T.depthL] at h⟩
   rw [packT, if_pos rfl]
   exact one (b := []) (by decide) (fun g l => rfl) r
  ·obtain ⟨h1, h2, h3, h4⟩ := (own2 _ _ _ _).1 hq
   obtain rfl := bytes_nil h1; obtain rfl := List.length_eq_zero_iff.1 h3; subst h2
   refine ⟨fun _ r => ?_, fun h => by simp [T.depthL] at h⟩
   rw [packT, if_neg (by decide), if_pos rfl]
   rcases h4 with rfl | rfl
   ·rw [if_neg (by decide)]; exact one (b := []) (by decide) (fun g l => rfl) r
   ·rw [if_pos rfl]; exact one (b := []) (by decide) (fun g l => rfl) r
  ·obtain ⟨h1, h2, h3, h4⟩ := (own3 _ _ _ _).1 hq
   obtain rfl := bytes_nil h1; obtain rfl := List.length_eq_zero_iff.1 h3; subst h2
   refine ⟨fun _ r => ?_, fun h => by simp [T.depthL] at h⟩
   rw [packT, if_neg (by decide), if_neg (by decide), if_pos rfl, if_pos h4]
   by_cases hn : n < 0
   ·rw [if_pos hn]
    obtain ⟨w, _, hw⟩ := rdH_hd (mj := 1) (n := -1 - n) (by decide) (by omega) r
    rw [rdT_step d hw]
    have : rdBody (rdT d) 1 (-1 - n) w ((hdL 1 (-1 - n) ++ r).drop (hdL 1 (-1 - n)).length) = .ok (.mk 3 n 0 ⟨#[]⟩ [], 0) := by
     unfold rdBody
     rw [if_neg (by decide), if_pos rfl, if_neg (by omega), show -1 - (-1 - n) = n from by omega]
    rw [this]; rfl
   ·rw [if_neg hn]
    obtain ⟨w, _, hw⟩ := rdH_hd (mj := 0) (n := n) (by decide) (by omega) r
    rw [rdT_step d hw]; rfl
  ·obtain ⟨h1, h3, h4⟩ := (own4 _ _ _ _).1 hq
   obtain rfl := bytes_nil h1; obtain rfl := List.length_eq_zero_iff.1 h3
   refine ⟨fun _ r => ?_, fun h => by simp [T.depthL] at h⟩
   rw [packT, if_neg (by decide), if_neg (by decide), if_neg (by decide), if_pos rfl]
   have hb := flt_bits h4
   have hr := fltBitsD_in n x
   have hr0 : fltBitsD n x ≠ -1 := by
    intro h
    rw [h] at hb
    have h2 := congrArg Prod.snd hb
    exact absurd (show (bitsFltD (-1)).2 = true from h2) (by decide)
   refine one (b := []) ⟨by decide, by omega, Or.inr (Or.inl ⟨by decide, ?_⟩)⟩ (fun g l => ?_) r
   ·exact (widthD_fit _ 4 (by omega) (by decide)).1 ⟨by omega, by omega⟩
   ·unfold rdBody rdSimple
    rw [if_neg (by decide), if_neg (by decide), if_neg (by decide), if_neg (by decide), if_neg (by decide), if_neg (by omega), if_neg (by omega), if_neg (by omega), if_pos ⟨rfl, by rw [hb]⟩, hb]
  ·obtain ⟨h1, h2, h3, h4⟩ := (own5 _ _ _ _).1 hq
   obtain rfl := bytes_nil h1; obtain rfl := List.length_eq_zero_iff.1 h3; subst h2
   refine ⟨fun _ r => ?_, fun h => by simp [T.depthL] at h⟩
   rw [packT, if_neg (by decide), if_neg (by decide), if_neg (by decide), if_neg (by decide), if_pos rfl, if_pos h4]
   obtain rfl | rfl | rfl : n = 0 ∨ n = 1 ∨ n = 2 := by omega
   ·exact one (b := []) (by decide) (fun g l => rfl) r
   ·exact one (b := []) (by decide) (fun g l => rfl) r
   ·exact one (b := []) (by decide) (fun g l => rfl) r
  ·exact absurd rfl h6
  ·obtain ⟨h1, h2, h3, h4⟩ := (own7 _ _ _ _).1 hq
   obtain rfl := List.length_eq_zero_iff.1 h2; subst h1; subst h3
   refine ⟨fun _ r => ?_, fun h => by simp [T.depthL] at h⟩
   rw [packT, if_neg (by decide), if_neg (by decide), if_neg (by decide), if_neg (by decide), if_neg (by decide), if_pos rfl, List.append_assoc]
   obtain ⟨w, hw1, hw⟩ := rdH_hd (mj := 3) (n := (s.size : Int)) (by decide) (by omega) (byteL s ++ r)
   rw [rdT_step d hw, List.drop_left]
   unfold rdBody rdStr
   rw [if_neg (by decide), if_neg (by decide), if_pos (Or.inr rfl), if_neg hw1, if_neg (by rw [List.length_append, byteL_len]; omega), Int.toNat_natCast, List.take_append_of_le_length (by rw [byteL_len]; exact Nat.le_refl _), List.take_of_length_le (by rw [byteL_len]; exact Nat.le_refl _), byteL_str, if_neg (by rw [h4]; simp)]
   simp only [if_true, byteL_str, List.length_append, byteL_len]
  ·obtain ⟨h1, h2, h3⟩ := (own8 _ _ _ _).1 hq
   obtain rfl := List.length_eq_zero_iff.1 h2; subst h1; subst h3
   refine ⟨fun _ r => ?_, fun h => by simp [T.depthL] at h⟩
   rw [packT, if_neg (by decide), if_neg (by decide), if_neg (by decide), if_neg (by decide), if_neg (by decide), if_neg (by decide), if_pos rfl, List.append_assoc]
   obtain ⟨w, hw1, hw⟩ := rdH_hd (mj := 2) (n := (s.size : Int)) (by decide) (by omega) (byteL s ++ r)
   rw [rdT_step d hw, List.drop_left]
   unfold rdBody rdStr
   rw [if_neg (by decide), if_neg (by decide), if_pos (Or.inl rfl), if_neg hw1, if_neg (by rw [List.length_append, byteL_len]; omega), Int.toNat_natCast, List.take_append_of_le_length (by rw [byteL_len]; exact Nat.le_refl _), List.take_of_length_le (by rw [byteL_len]; exact Nat.le_refl _), byteL_str, if_neg (by rintro ⟨h, _⟩; exact absurd h (by decide))]
   simp only [byteL_str, List.length_append, byteL_len]
   rfl
  ·obtain ⟨h1, h2, h3⟩ := (own9 _ _ _ _).1 hq
   obtain rfl := bytes_nil h1; subst h2; subst h3
   have e : packT (.mk 9 0 0 ⟨#[]⟩ l) = hdL 4 l.length ++ packTs l := by rw [packT, if_neg (by decide), if_neg (by decide), if_neg (by decide), if_neg (by decide), if_neg (by decide), if_neg (by decide), if_neg (by decide), if_pos rfl]
   rw [e]
   have hb : ∀ r, ∃ w, w ≠ -1 ∧ rdH (hdL 4 l.length ++ (packTs l ++ r)) = .ok ((4, (l.length : Int), w), (hdL 4 l.length).length) := fun r => rdH_hd (mj := 4) (n := (l.length : Int)) (by decide) (by omega) _
   refine ⟨fun h r => ?_, fun h r => ?_⟩
   ·obtain ⟨w, hw1, hw⟩ := hb r
    rw [List.append_assoc, rdT_step d hw, List.drop_left]
    unfold rdBody
    rw [if_neg (by decide), if_neg (by decide), if_neg (by decide), if_pos (Or.inl rfl), if_neg hw1, if_neg (by decide), Int.toNat_natCast, rdManyT_ok _ _ (fun t ht => (hch t ht).1 (by obtain ⟨i, hi, rfl⟩ := mem_get ht; have := T.depth_get l i hi; omega))]
    simp only [List.length_append]
    rfl
   ·obtain ⟨w, hw1, hw⟩ := hb r
    rw [List.append_assoc, rdT_step d hw, List.drop_left]
    unfold rdBody
    rw [if_neg (by decide), if_neg (by decide), if_neg (by decide), if_pos (Or.inl rfl), if_neg hw1, if_neg (by decide), Int.toNat_natCast, rdManyT_deep _ d _ (fun t ht => (hch t ht).1) (fun t ht => (hch t ht).2) (by omega)]
  ·obtain ⟨h1, h2, h3, h4⟩ := (own10 _ _ _ _).1 hq
   obtain rfl := bytes_nil h1; subst h2; subst h3
   have e2 : 2 * (l.length / 2) = l.length := by omega
   have e : packT (.mk 10 0 0 ⟨#[]⟩ l) = hdL 5 ((l.length / 2 : Nat) : Int) ++ packTs l := by rw [packT, if_neg (by decide), if_neg (by decide), if_neg (by decide), if_neg (by decide), if_neg (by decide), if_neg (by decide), if_neg (by decide), if_neg (by decide), if_pos rfl]
   rw [e]
   have hb : ∀ r, ∃ w, w ≠ -1 ∧ rdH (hdL 5 ((l.length / 2 : Nat) : Int) ++ (packTs l ++ r)) = .ok ((5, ((l.length / 2 : Nat) : Int), w), (hdL 5 ((l.length / 2 : Nat) : Int)).length) := fun r => rdH_hd (mj := 5) (n := ((l.length / 2 : Nat) : Int)) (by decide) (by omega) _
   refine ⟨fun h r => ?_, fun h r => ?_⟩
   ·obtain ⟨w, hw1, hw⟩ := hb r
    rw [List.append_assoc, rdT_step d hw, List.drop_left]
    unfold rdBody
    rw [if_neg (by decide), if_neg (by decide), if_neg (by decide), if_pos (Or.inr rfl), if_neg hw1, if_pos rfl, Int.toNat_natCast, e2, rdManyT_ok _ _ (fun t ht => (hch t ht).1 (by obtain ⟨i, hi, rfl⟩ := mem_get ht; have := T.depth_get l i hi; omega))]
    simp only [List.length_append, if_true]
   ·obtain ⟨w, hw1, hw⟩ := hb r
    rw [List.append_assoc, rdT_step d hw, List.drop_left]
    unfold rdBody
    rw [if_neg (by decide), if_neg (by decide), if_neg (by decide), if_pos (Or.inr rfl), if_neg hw1, if_pos rfl, Int.toNat_natCast, e2, rdManyT_deep _ d _ (fun t ht => (hch t ht).1) (fun t ht => (hch t ht).2) (by omega)]
  ·obtain ⟨h1, h2, h3, h4⟩ := (own11 _ _ _ _).1 hq
   obtain rfl := bytes_nil h1; subst h2
   obtain ⟨t, rfl⟩ : ∃ t, l = [t] := List.length_eq_one_iff.1 h4
   have e : packT (.mk 11 n 0 ⟨#[]⟩ [t]) = hdL 6 n ++ packT t := by rw [packT, if_neg (by decide), if_neg (by decide), if_neg (by decide), if_neg (by decide), if_neg (by decide), if_neg (by decide), if_neg (by decide), if_neg (by decide), if_neg (by decide), if_pos rfl, if_pos h3, packTs, packTs, List.append_nil]
   rw [e]
   have hdl : T.depthL [t] = T.depth t := by simp [T.depthL]
   rw [hdl]
   refine ⟨fun h r => ?_, fun h r => ?_⟩
   ·obtain ⟨w, _, hw⟩ := rdH_hd (mj := 6) (n := n) (by decide) h3 (packT t ++ r)
    rw [List.append_assoc, rdT_step d hw, List.drop_left]
    unfold rdBody
    rw [if_neg (by decide), if_neg (by decide), if_neg (by decide), if_neg (by decide), if_pos rfl, (hch t (by simp)).1 (by omega)]
    simp only [List.length_append]
   ·obtain ⟨w, _, hw⟩ := rdH_hd (mj := 6) (n := n) (by decide) h3 (packT t ++ r)
    rw [List.append_assoc, rdT_step d hw, List.drop_left]
    unfold rdBody
    rw [if_neg (by decide), if_neg (by decide), if_neg (by decide), if_neg (by decide), if_pos rfl, (hch t (by simp)).2 (by omega)]
end Go.Proofs.YtggdenkmohnijaaGreatDoor
