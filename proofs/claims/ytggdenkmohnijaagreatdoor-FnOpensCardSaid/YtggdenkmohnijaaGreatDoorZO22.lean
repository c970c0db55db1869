/- Texts of this proof, merged: TigR, TigP. No condition beyond what each theorem states. -/
import Derived.Test.YtggdenkmohnijaaGreatDoorZO21
set_option linter.unusedSimpArgs false
set_option linter.unnecessarySimpa false
namespace Go.Proofs.YtggdenkmohnijaaGreatDoor
open Go.ChangeShapes Go.WideShapes Go.ChangeAt Go.RowKit Go.Joins
set_option linter.unusedVariables false
set_option maxRecDepth 100000
def wideD (i : Int) : Nat := if i = 24 then 1 else if i = 25 then 2 else if i = 26 then 4 else 8
theorem wideD_in (i : Int) : wideD i = 1 ∨ wideD i = 2 ∨ wideD i = 4 ∨ wideD i = 8 := by
 unfold wideD
 split
 ·exact Or.inl rfl
 split
 ·exact Or.inr (Or.inl rfl)
 split
 ·exact Or.inr (Or.inr (Or.inl rfl))
 ·exact Or.inr (Or.inr (Or.inr rfl))
def rdH : List Int → Except Int ((Int × Int × Int) × Nat)
 | [] => .error 1
 | c :: r =>
  if c % 32 < 24 then .ok ((c / 32, c % 32, 0), 1)
  else if c % 32 = 31 then (if c / 32 = 0 ∨ c / 32 = 1 ∨ c / 32 = 6 then .error 1 else .ok ((c / 32, 0, -1), 1))
  else if 27 < c % 32 ∨ r.length < wideD (c % 32) then .error 1
  else if beN (r.take (wideD (c % 32))) ≤ 1000000000000000 then .ok ((c / 32, beN (r.take (wideD (c % 32))), wideD (c % 32)), wideD (c % 32) + 1)
  else .error 2
def rdStr (mj n : Int) (l : List Int) : Except Int (List Int × Nat) :=
 if (l.length : Int) < n then .error 1
 else if mj = 3 ∧ Lib.validD (strOfNums (l.take n.toNat)).data.toList = false then .error 1
 else .ok (l.take n.toNat, n.toNat)
def rdParts (mj : Int) : Nat → List Int → Except Int (List Int × Nat)
 | 0, _ => .error 1
 | f + 1, l =>
  if l.getD 0 0 = 255 then .ok ([], 1)
  else match rdH l with
  | .error c => .error c
  | .ok ((m, n, w), u) =>
   if m ≠ mj ∨ w = -1 then .error 1
   else match rdStr m n (l.drop u) with
   | .error c => .error c
   | .ok (s, v) =>
    match rdParts mj f ((l.drop u).drop v) with
    | .error c => .error c
    | .ok (s2, v2) => .ok (s ++ s2, u + v + v2)
def rdOpen (g : List Int → Except Int (T × Nat)) (o : Bool) : Bool → Nat → List Int → Except Int (List T × Nat)
 | _, 0, _ => .error 1
 | p, f + 1, l =>
  if l.getD 0 0 = 255 then (if o = true ∧ p = true then .error 1 else .ok ([], 1))
  else match g l with
  | .error c => .error c
  | .ok (t, u) =>
   match rdOpen g o (!p) f (l.drop u) with
   | .error c => .error c
   | .ok (ts, v) => .ok (t :: ts, u + v)
def rdSimple (n w : Int) : Except Int T :=
 if w = 0 ∧ (n = 20 ∨ n = 21) then .ok (.mk 2 (n - 20) 0 ⟨#[]⟩ [])
 else if w = 0 ∧ n = 22 then .ok (.mk 1 0 0 ⟨#[]⟩ [])
 else if w = 1 ∧ 32 ≤ n ∧ n ≤ 34 then .ok (.mk 5 (n - 32) 0 ⟨#[]⟩ [])
 else if w = 4 ∧ (bitsFltD n).2 = true then .ok (.mk 4 (bitsFltD n).1.1 (bitsFltD n).1.2 ⟨#[]⟩ [])
 else .error 1
def rdBody (g : List Int → Except Int (T × Nat)) (mj n w : Int) (l : List Int) : Except Int (T × Nat) :=
  if mj = 0 then .ok (.mk 3 n 0 ⟨#[]⟩ [], 0)
  else if mj = 1 then (if 999999999999999 < n then .error 2 else .ok (.mk 3 (-1 - n) 0 ⟨#[]⟩ [], 0))
  else if mj = 2 ∨ mj = 3 then
    (match (if w = -1 then rdParts mj (l.length + 1) l else rdStr mj n l) with
     | .error c => .error c
     | .ok (s, v) => .ok (.mk (if mj = 3 then 7 else 8) 0 0 (strOfNums s) [], v))
  else if mj = 4 ∨ mj = 5 then
    (match (if w = -1 then rdOpen g (decide (mj = 5)) false (l.length + 1) l else rdMany g (if mj = 5 then 2 * n.toNat else n.toNat) l) with
     | .error c => .error c
     | .ok (ts, v) => .ok (.mk (if mj = 5 then 10 else 9) 0 0 ⟨#[]⟩ ts, v))
  else if mj = 6 then
    (match g l with
     | .error c => .error c
     | .ok (t, v) => .ok (.mk 11 n 0 ⟨#[]⟩ [t], v))
  else (match rdSimple n w with
     | .error c => .error c
     | .ok t => .ok (t, 0))
def rdT : Nat → List Int → Except Int (T × Nat)
 | 0, _ => .error 2
 | d + 1, l =>
  match rdH l with
  | .error c => .error c
  | .ok ((mj, n, w), u) =>
   match rdBody (rdT d) mj n w (l.drop u) with
   | .error c => .error c
   | .ok (t, v) => .ok (t, u + v)
theorem beN_u8 {l : List Int} (h : ∀ x ∈ l, U8 x) : 0 ≤ beN l := beF_nonneg l 0 (Int.le_refl _) h
theorem rdH_in {l : List Int} (hu : ∀ x ∈ l, U8 x) {mj n w : Int} {u : Nat} (h : rdH l = .ok ((mj, n, w), u)) :
  (1 ≤ u ∧ u ≤ l.length) ∧ (0 ≤ mj ∧ mj ≤ 7) ∧ (0 ≤ n ∧ n ≤ 1000000000000000) ∧ ((w = 0 ∧ n ≤ 23) ∨ w = 1 ∨ w = 2 ∨ w = 4 ∨ w = 8 ∨ (w = -1 ∧ n = 0 ∧ mj ≠ 0 ∧ mj ≠ 1 ∧ mj ≠ 6)) := by
 cases l with
 | nil => cases h
 | cons c r =>
  have hc := hu c (by simp)
  obtain ⟨hc0, hc1⟩ := hc
  rw [rdH] at h
  have hl : (c :: r).length = r.length + 1 := rfl
  by_cases h1 : c % 32 < 24
  ·rw [if_pos h1] at h; cases h
   exact ⟨⟨by omega, by omega⟩, by omega, by omega, Or.inl ⟨rfl, by omega⟩⟩
  rw [if_neg h1] at h
  by_cases h2 : c % 32 = 31
  ·rw [if_pos h2] at h
   split at h
   ·cases h
   ·cases h
    exact ⟨⟨by omega, by omega⟩, by omega, by omega, by omega⟩
  rw [if_neg h2] at h
  split at h
  ·cases h
  split at h
  ·rename_i h3 h4
   have hb := beN_u8 (l := r.take (wideD (c % 32))) (fun x hx => hu x (by simp [List.mem_of_mem_take hx]))
   have hw := wideD_in (c % 32)
   cases h
   exact ⟨⟨by omega, by omega⟩, by omega, ⟨hb, h4⟩, by omega⟩
  ·cases h
theorem rdH_err {l : List Int} {c : Int} (h : rdH l = .error c) : c = 1 ∨ c = 2 := by
 cases l with
 | nil => cases h; exact Or.inl rfl
 | cons b r =>
  rw [rdH] at h
  repeat' split at h
  all_goals first | (cases h; done) | (cases h; exact Or.inl rfl) | (cases h; exact Or.inr rfl)
theorem rdH_ok {mj n w : Int} (h : headOk mj n w) (r : List Int) : rdH (headL mj n w ++ r) = .ok ((mj, n, w), (headL mj n w).length) := by
 have hI := infoD_in h
 unfold headL
 rw [if_pos h]
 obtain ⟨⟨h0, h1⟩, ⟨h2, h3⟩, h4⟩ := h
 have hq : (32 * mj + infoD n w) / 32 = mj := by omega
 have hm : (32 * mj + infoD n w) % 32 = infoD n w := by omega
 rw [List.cons_append, rdH, hq, hm]
 rcases h4 with ⟨rfl, hn⟩ | ⟨hw, hwd⟩ | ⟨rfl, rfl, hn⟩
 ·have e : infoD n 0 = n := rfl
  rw [e, if_pos (by omega)]; rfl
 ·have key : ∀ (k : Nat), w = (k : Int) → infoD n w = (if k = 1 then 24 else if k = 2 then 25 else if k = 4 then 26 else 27) → wideD (infoD n w) = k → n < 256 ^ k → ¬ infoD n w < 24 → ¬ infoD n w = 31 → ¬ 27 < infoD n w →
    (if infoD n w < 24 then (.ok ((mj, infoD n w, 0), 1) : Except Int ((Int × Int × Int) × Nat)) else if infoD n w = 31 then (if mj = 0 ∨ mj = 1 ∨ mj = 6 then .error 1 else .ok ((mj, 0, -1), 1)) else if 27 < infoD n w ∨ (bigL n w.toNat ++ r).length < wideD (infoD n w) then .error 1 else if beN ((bigL n w.toNat ++ r).take (wideD (infoD n w))) ≤ 1000000000000000 then .ok ((mj, beN ((bigL n w.toNat ++ r).take (wideD (infoD n w))), wideD (infoD n w)), wideD (infoD n w) + 1) else .error 2) = .ok ((mj, n, w), ((32 * mj + infoD n w) :: bigL n w.toNat).length) := by
   intro k hk _ hwide hlt n1 n2 n3
   have hkk : w.toNat = k := by omega
   rw [if_neg n1, if_neg n2, if_neg (by rintro (h | h); exact n3 h; rw [List.length_append, bigL_len, hwide, hkk] at h; omega), hwide, hkk, take_big, beN_id n k h2 hlt, if_pos h3, List.length_cons, bigL_len, ← hk]
  have hf := (widthD_fit n w h2 hw).2 hwd
  unfold fitW at hf
  rcases hw with rfl | rfl | rfl | rfl
  ·exact key 1 rfl rfl rfl (by omega) (show ¬ (24 : Int) < 24 by decide) (show ¬ (24 : Int) = 31 by decide) (show ¬ (27 : Int) < 24 by decide)
  ·exact key 2 rfl rfl rfl (by omega) (show ¬ (25 : Int) < 24 by decide) (show ¬ (25 : Int) = 31 by decide) (show ¬ (27 : Int) < 25 by decide)
  ·exact key 4 rfl rfl rfl (by omega) (show ¬ (26 : Int) < 24 by decide) (show ¬ (26 : Int) = 31 by decide) (show ¬ (27 : Int) < 26 by decide)
  ·exact key 8 rfl rfl rfl (by omega) (show ¬ (27 : Int) < 24 by decide) (show ¬ (27 : Int) = 31 by decide) (show ¬ (27 : Int) < 27 by decide)
 ·have e : infoD 0 (-1) = 31 := rfl
  rw [e, if_neg (by decide), if_pos rfl, if_neg (by omega)]; rfl
theorem rdH_hd {mj n : Int} (h0 : 0 ≤ mj ∧ mj ≤ 7) (h1 : 0 ≤ n ∧ n ≤ 1000000000000000) (r : List Int) : ∃ w, w ≠ -1 ∧ rdH (hdL mj n ++ r) = .ok ((mj, n, w), (hdL mj n).length) := by
 unfold hdL
 rw [headForD_ok h0 h1]
 refine ⟨if 23 < n then widthD n else 0, ?_, rdH_ok (headFor_ok h0 h1) r⟩
 have := widthD_in n h1.1
 split <;> omega
theorem rdManyT_ok (f : List Int → Except Int (T × Nat)) : ∀ (l : List T), (∀ t ∈ l, ∀ r, f (packT t ++ r) = .ok (t, (packT t).length)) → ∀ r, rdMany f l.length (packTs l ++ r) = .ok (l, (packTs l).length) := by
 intro l
 induction l with
 | nil => intro _ r; rfl
 | cons t l ih =>
  intro h r
  rw [List.length_cons, packTs, List.append_assoc, rdMany, h t (by simp)]
  simp only
  rw [List.drop_left, ih (fun u hu => h u (by simp [hu])) r]
  simp [List.length_append]
theorem rdManyT_deep (f : List Int → Except Int (T × Nat)) (d : Nat) : ∀ (l : List T), (∀ t ∈ l, T.depth t ≤ d → ∀ r, f (packT t ++ r) = .ok (t, (packT t).length)) → (∀ t ∈ l, d < T.depth t → ∀ r, f (packT t ++ r) = .error 2) → d < T.depthL l → ∀ r, rdMany f l.length (packTs l ++ r) = .error 2 := by
 intro l
 induction l with
 | nil => intro _ _ h; simp [T.depthL] at h
 | cons t l ih =>
  intro h1 h2 hd r
  rw [List.length_cons, packTs, List.append_assoc, rdMany]
  by_cases ht : d < T.depth t
  ·rw [h2 t (by simp) ht]
  ·rw [h1 t (by simp) (by omega)]
   simp only
   rw [List.drop_left, ih (fun u hu => h1 u (by simp [hu])) (fun u hu => h2 u (by simp [hu])) (by simp only [T.depthL] at hd; omega) r]
theorem rdT_step (d : Nat) {mj n w : Int} {u : Nat} {l : List Int} (h : rdH l = .ok ((mj, n, w), u)) : rdT (d + 1) l = (match rdBody (rdT d) mj n w (l.drop u) with | .error c => .error c | .ok (t, v) => .ok (t, u + v)) := by
 rw [rdT, h]
def tgQ (t : T) : Prop := ownQ t.k t.n t.x t.s t.l.length ∧ t.k ≠ 6 ∧ (t.s.size : Int) ≤ 1000000000000000 ∧ (t.l.length : Int) ≤ 1000000000000000
theorem rdT_both : ∀ t : T, AllT tgQ t → ∀ d, (T.depth t ≤ d → ∀ r, rdT d (packT t ++ r) = .ok (t, (packT t).length)) ∧ (d < T.depth t → ∀ r, rdT d (packT t ++ r) = .error 2) := by
 apply T.ind
 intro k n x s l ih ho d
 rw [AllT_iff] at ho
 obtain ⟨⟨hq, h6, hss, hll⟩, hall⟩ := ho
 simp only [T.k, T.n, T.x, T.s, T.l] at hq h6 hss hll hall
 have hdep : T.depth (.mk k n x s l) = T.depthL l + 1 := by simp [T.depth]
 rw [hdep]
 cases d with
 | zero => exact ⟨fun h => by omega, fun _ r => rfl⟩
 | succ d =>
  have hch : ∀ t ∈ l, (T.depth t ≤ d → ∀ r, rdT d (packT t ++ r) = .ok (t, (packT t).length)) ∧ (d < T.depth t → ∀ r, rdT d (packT t ++ r) = .error 2) := fun t ht => ih t ht (hall t ht) d
  have one : ∀ {mj m w : Int} {b : List Int} {t : T}, headOk mj m w → (∀ g l, rdBody g mj m w l = .ok (t, 0)) → ∀ r, rdT (d + 1) (headL mj m w ++ r) = .ok (t, (headL mj m w).length) := by
   intro mj m w b t h1 h2 r
   rw [rdT_step d (rdH_ok h1 r), h2]; rfl
  rcases own_kinds hq with rfl | rfl | rfl | rfl | rfl | rfl | rfl | rfl | rfl | rfl | rfl
  ·obtain ⟨h1, h2, h3, h4⟩ := (own1 _ _ _ _).1 hq
   obtain rfl := bytes_nil h1; obtain rfl := List.length_eq_zero_iff.1 h3; subst h2; subst h4
   refine ⟨fun _ r => ?_, fun h => by simp [T.depthL] at h⟩
   rw [packT, if_pos rfl]
   exact one (b := []) (by decide) (fun g l => rfl) r
  ·obtain ⟨h1, h2, h3, h4⟩ := (own2 _ _ _ _).1 hq
   obtain rfl := bytes_nil h1; obtain rfl := List.length_eq_zero_iff.1 h3; subst h2
   refine ⟨fun _ r => ?_, fun h => by simp [T.depthL] at h⟩
   rw [packT, if_neg (by decide), if_pos rfl]
   rcases h4 with rfl | rfl
   ·rw [if_neg (by decide)]; exact one (b := []) (by decide) (fun g l => rfl) r
   ·rw [if_pos rfl]; exact one (b := []) (by decide) (fun g l => rfl) r
  ·obtain ⟨h1, h2, h3, h4⟩ := (own3 _ _ _ _).1 hq
   obtain rfl := bytes_nil h1; obtain rfl := List.length_eq_zero_iff.1 h3; subst h2
   refine ⟨fun _ r => ?_, fun h => by simp [T.depthL] at h⟩
   rw [packT, if_neg (by decide), if_neg (by decide), if_pos rfl, if_pos h4]
   by_cases hn : n < 0
   ·rw [if_pos hn]
    obtain ⟨w, _, hw⟩ := rdH_hd (mj := 1) (n := -1 - n) (by decide) (by omega) r
    rw [rdT_step d hw]
    have : rdBody (rdT d) 1 (-1 - n) w ((hdL 1 (-1 - n) ++ r).drop (hdL 1 (-1 - n)).length) = .ok (.mk 3 n 0 ⟨#[]⟩ [], 0) := by
     unfold rdBody
     rw [if_neg (by decide), if_pos rfl, if_neg (by omega), show -1 - (-1 - n) = n from by omega]
    rw [this]; rfl
   ·rw [if_neg hn]
    obtain ⟨w, _, hw⟩ := rdH_hd (mj := 0) (n := n) (by decide) (by omega) r
    rw [rdT_step d hw]; rfl
  ·obtain ⟨h1, h3, h4⟩ := (own4 _ _ _ _).1 hq
   obtain rfl := bytes_nil h1; obtain rfl := List.length_eq_zero_iff.1 h3
   refine ⟨fun _ r => ?_, fun h => by simp [T.depthL] at h⟩
   rw [packT, if_neg (by decide), if_neg (by decide), if_neg (by decide), if_pos rfl]
   have hb := flt_bits h4
   have hr := fltBitsD_in n x
   have hr0 : fltBitsD n x ≠ -1 := by
    intro h
    rw [h] at hb
    have h2 := congrArg Prod.snd hb
    exact absurd (show (bitsFltD (-1)).2 = true from h2) (by decide)
   refine one (b := []) ⟨by decide, by omega, Or.inr (Or.inl ⟨by decide, ?_⟩)⟩ (fun g l => ?_) r
   ·exact (widthD_fit _ 4 (by omega) (by decide)).1 ⟨by omega, by omega⟩
   ·unfold rdBody rdSimple
    rw [if_neg (by decide), if_neg (by decide), if_neg (by decide), if_neg (by decide), if_neg (by decide), if_neg (by omega), if_neg (by omega), if_neg (by omega), if_pos ⟨rfl, by rw [hb]⟩, hb]
  ·obtain ⟨h1, h2, h3, h4⟩ := (own5 _ _ _ _).1 hq
   obtain rfl := bytes_nil h1; obtain rfl := List.length_eq_zero_iff.1 h3; subst h2
   refine ⟨fun _ r => ?_, fun h => by simp [T.depthL] at h⟩
   rw [packT, if_neg (by decide), if_neg (by decide), if_neg (by decide), if_neg (by decide), if_pos rfl, if_pos h4]
   obtain rfl | rfl | rfl : n = 0 ∨ n = 1 ∨ n = 2 := by omega
   ·exact one (b := []) (by decide) (fun g l => rfl) r
   ·exact one (b := []) (by decide) (fun g l => rfl) r
   ·exact one (b := []) (by decide) (fun g l => rfl) r
  ·exact absurd rfl h6
  ·obtain ⟨h1, h2, h3, h4⟩ := (own7 _ _ _ _).1 hq
   obtain rfl := List.length_eq_zero_iff.1 h2; subst h1; subst h3
   refine ⟨fun _ r => ?_, fun h => by simp [T.depthL] at h⟩
   rw [packT, if_neg (by decide), if_neg (by decide), if_neg (by decide), if_neg (by decide), if_neg (by decide), if_pos rfl, List.append_assoc]
   obtain ⟨w, hw1, hw⟩ := rdH_hd (mj := 3) (n := (s.size : Int)) (by decide) (by omega) (byteL s ++ r)
   rw [rdT_step d hw, List.drop_left]
   unfold rdBody rdStr
   rw [if_neg (by decide), if_neg (by decide), if_pos (Or.inr rfl), if_neg hw1, if_neg (by rw [List.length_append, byteL_len]; omega), Int.toNat_natCast, List.take_append_of_le_length (by rw [byteL_len]; exact Nat.le_refl _), List.take_of_length_le (by rw [byteL_len]; exact Nat.le_refl _), byteL_str, if_neg (by rw [h4]; simp)]
   simp only [if_true, byteL_str, List.length_append, byteL_len]
  ·obtain ⟨h1, h2, h3⟩ := (own8 _ _ _ _).1 hq
   obtain rfl := List.length_eq_zero_iff.1 h2; subst h1; subst h3
   refine ⟨fun _ r => ?_, fun h => by simp [T.depthL] at h⟩
   rw [packT, if_neg (by decide), if_neg (by decide), if_neg (by decide), if_neg (by decide), if_neg (by decide), if_neg (by decide), if_pos rfl, List.append_assoc]
   obtain ⟨w, hw1, hw⟩ := rdH_hd (mj := 2) (n := (s.size : Int)) (by decide) (by omega) (byteL s ++ r)
   rw [rdT_step d hw, List.drop_left]
   unfold rdBody rdStr
   rw [if_neg (by decide), if_neg (by decide), if_pos (Or.inl rfl), if_neg hw1, if_neg (by rw [List.length_append, byteL_len]; omega), Int.toNat_natCast, List.take_append_of_le_length (by rw [byteL_len]; exact Nat.le_refl _), List.take_of_length_le (by rw [byteL_len]; exact Nat.le_refl _), byteL_str, if_neg (by rintro ⟨h, _⟩; exact absurd h (by decide))]
   simp only [byteL_str, List.length_append, byteL_len]
   rfl
  ·obtain ⟨h1, h2, h3⟩ := (own9 _ _ _ _).1 hq
   obtain rfl := bytes_nil h1; subst h2; subst h3
   have e : packT (.mk 9 0 0 ⟨#[]⟩ l) = hdL 4 l.length ++ packTs l := by rw [packT, if_neg (by decide), if_neg (by decide), if_neg (by decide), if_neg (by decide), if_neg (by decide), if_neg (by decide), if_neg (by decide), if_pos rfl]
   rw [e]
   have hb : ∀ r, ∃ w, w ≠ -1 ∧ rdH (hdL 4 l.length ++ (packTs l ++ r)) = .ok ((4, (l.length : Int), w), (hdL 4 l.length).length) := fun r => rdH_hd (mj := 4) (n := (l.length : Int)) (by decide) (by omega) _
   refine ⟨fun h r => ?_, fun h r => ?_⟩
   ·obtain ⟨w, hw1, hw⟩ := hb r
    rw [List.append_assoc, rdT_step d hw, List.drop_left]
    unfold rdBody
    rw [if_neg (by decide), if_neg (by decide), if_neg (by decide), if_pos (Or.inl rfl), if_neg hw1, if_neg (by decide), Int.toNat_natCast, rdManyT_ok _ _ (fun t ht => (hch t ht).1 (by obtain ⟨i, hi, rfl⟩ := mem_get ht; have := T.depth_get l i hi; omega))]
    simp only [List.length_append]
    rfl
   ·obtain ⟨w, hw1, hw⟩ := hb r
    rw [List.append_assoc, rdT_step d hw, List.drop_left]
    unfold rdBody
    rw [if_neg (by decide), if_neg (by decide), if_neg (by decide), if_pos (Or.inl rfl), if_neg hw1, if_neg (by decide), Int.toNat_natCast, rdManyT_deep _ d _ (fun t ht => (hch t ht).1) (fun t ht => (hch t ht).2) (by omega)]
  ·obtain ⟨h1, h2, h3, h4⟩ := (own10 _ _ _ _).1 hq
   obtain rfl := bytes_nil h1; subst h2; subst h3
   have e2 : 2 * (l.length / 2) = l.length := by omega
   have e : packT (.mk 10 0 0 ⟨#[]⟩ l) = hdL 5 ((l.length / 2 : Nat) : Int) ++ packTs l := by rw [packT, if_neg (by decide), if_neg (by decide), if_neg (by decide), if_neg (by decide), if_neg (by decide), if_neg (by decide), if_neg (by decide), if_neg (by decide), if_pos rfl]
   rw [e]
   have hb : ∀ r, ∃ w, w ≠ -1 ∧ rdH (hdL 5 ((l.length / 2 : Nat) : Int) ++ (packTs l ++ r)) = .ok ((5, ((l.length / 2 : Nat) : Int), w), (hdL 5 ((l.length / 2 : Nat) : Int)).length) := fun r => rdH_hd (mj := 5) (n := ((l.length / 2 : Nat) : Int)) (by decide) (by omega) _
   refine ⟨fun h r => ?_, fun h r => ?_⟩
   ·obtain ⟨w, hw1, hw⟩ := hb r
    rw [List.append_assoc, rdT_step d hw, List.drop_left]
    unfold rdBody
    rw [if_neg (by decide), if_neg (by decide), if_neg (by decide), if_pos (Or.inr rfl), if_neg hw1, if_pos rfl, Int.toNat_natCast, e2, rdManyT_ok _ _ (fun t ht => (hch t ht).1 (by obtain ⟨i, hi, rfl⟩ := mem_get ht; have := T.depth_get l i hi; omega))]
    simp only [List.length_append, if_true]
   ·obtain ⟨w, hw1, hw⟩ := hb r
    rw [List.append_assoc, rdT_step d hw, List.drop_left]
    unfold rdBody
    rw [if_neg (by decide), if_neg (by decide), if_neg (by decide), if_pos (Or.inr rfl), if_neg hw1, if_pos rfl, Int.toNat_natCast, e2, rdManyT_deep _ d _ (fun t ht => (hch t ht).1) (fun t ht => (hch t ht).2) (by omega)]
  ·obtain ⟨h1, h2, h3, h4⟩ := (own11 _ _ _ _).1 hq
   obtain rfl := bytes_nil h1; subst h2
   obtain ⟨t, rfl⟩ : ∃ t, l = [t] := List.length_eq_one_iff.1 h4
   have e : packT (.mk 11 n 0 ⟨#[]⟩ [t]) = hdL 6 n ++ packT t := by rw [packT, if_neg (by decide), if_neg (by decide), if_neg (by decide), if_neg (by decide), if_neg (by decide), if_neg (by decide), if_neg (by decide), if_neg (by decide), if_neg (by decide), if_pos rfl, if_pos h3, packTs, packTs, List.append_nil]
   rw [e]
   have hdl : T.depthL [t] = T.depth t := by simp [T.depthL]
   rw [hdl]
   refine ⟨fun h r => ?_, fun h r => ?_⟩
   ·obtain ⟨w, _, hw⟩ := rdH_hd (mj := 6) (n := n) (by decide) h3 (packT t ++ r)
    rw [List.append_assoc, rdT_step d hw, List.drop_left]
    unfold rdBody
    rw [if_neg (by decide), if_neg (by decide), if_neg (by decide), if_neg (by decide), if_pos rfl, (hch t (by simp)).1 (by omega)]
    simp only [List.length_append]
   ·obtain ⟨w, _, hw⟩ := rdH_hd (mj := 6) (n := n) (by decide) h3 (packT t ++ r)
    rw [List.append_assoc, rdT_step d hw, List.drop_left]
    unfold rdBody
    rw [if_neg (by decide), if_neg (by decide), if_neg (by decide), if_neg (by decide), if_pos rfl, (hch t (by simp)).2 (by omega)]
theorem lexB_total : ∀ a b : List Int, a ≠ b → lexB a b = false → lexB b a = true := by
 intro a
 induction a with
 | nil =>
  intro b hne h
  cases b with
  | nil => exact absurd rfl hne
  | cons y b => rw [lexB] at h; cases h
 | cons x a ih =>
  intro b hne h
  cases b with
  | nil => rw [lexB]
  | cons y b =>
   rw [lexB] at h ⊢
   by_cases hxy : x = y
   ·subst hxy
    rw [if_pos rfl] at h ⊢
    exact ih b (fun e => hne (by rw [e])) h
   ·rw [if_neg hxy] at h
    rw [if_neg (fun e => hxy e.symm)]
    have := of_decide_eq_false h
    exact decide_eq_true (by omega)
theorem packT_inj {a b : T} (ha : AllT tgQ a) (hb : AllT tgQ b) (h : packT a = packT b) : a = b := by
 have h1 := (rdT_both a ha (max (T.depth a) (T.depth b))).1 (Nat.le_max_left _ _) []
 have h2 := (rdT_both b hb (max (T.depth a) (T.depth b))).1 (Nat.le_max_right _ _) []
 rw [h] at h1
 rw [h1] at h2
 injection h2 with h2
 exact congrArg Prod.fst h2
def posP (l : List T) (x : T) : Nat → Nat
 | 0 => 0
 | j + 1 => if lexB (packT x) (packT (l.getD (2 * j) zT)) then posP l x j else j + 1
theorem posP_le (l : List T) (x : T) : ∀ j, posP l x j ≤ j := by
 intro j
 induction j with
 | zero => exact Nat.le_refl _
 | succ j ih => rw [posP]; split <;> omega
theorem posP_hi (l : List T) (x : T) : ∀ j i, posP l x j ≤ i → i < j → lexB (packT x) (packT (l.getD (2 * i) zT)) = true := by
 intro j
 induction j with
 | zero => intro i _ h; omega
 | succ j ih =>
  intro i h1 h2
  rw [posP] at h1
  split at h1
  ·rename_i hl
   rcases Nat.lt_or_ge i j with h | h
   ·exact ih i h1 h
   ·obtain rfl : i = j := by omega
    exact hl
  ·omega
theorem posP_lo (l : List T) (x : T) : ∀ j, 0 < posP l x j → lexB (packT x) (packT (l.getD (2 * (posP l x j - 1)) zT)) = false := by
 intro j
 induction j with
 | zero => intro h; simp [posP] at h
 | succ j ih =>
  intro h
  rw [posP] at h ⊢
  split at h
  ·rename_i hl
   rw [if_pos hl]; exact ih h
  ·rename_i hl
   rw [if_neg hl, Nat.add_sub_cancel]
   simpa using hl
def insP (l : List T) (q : Nat) (x y : T) : List T := l.take (2 * q) ++ [x, y] ++ l.drop (2 * q)
def srtP (L : List T) : Nat → List T
 | 0 => []
 | j + 1 => insP (srtP L j) (posP (srtP L j) (L.getD (2 * j) zT) j) (L.getD (2 * j) zT) (L.getD (2 * j + 1) zT)
theorem insP_len (l : List T) (q : Nat) (x y : T) : (insP l q x y).length = l.length + 2 := by
 unfold insP
 have := congrArg List.length (List.take_append_drop (2 * q) l)
 simp only [List.length_append, List.length_cons, List.length_nil] at this ⊢
 omega
theorem srtP_len (L : List T) : ∀ j, (srtP L j).length = 2 * j := by
 intro j
 induction j with
 | zero => rfl
 | succ j ih => rw [srtP, insP_len, ih]; omega
theorem insP_name (l : List T) (q i : Nat) (x y : T) (hq : 2 * q ≤ l.length) :
  (insP l q x y).getD (2 * i) zT = if i < q then l.getD (2 * i) zT else if i = q then x else l.getD (2 * (i - 1)) zT := by
 unfold insP
 have h1 : (l.take (2 * q)).length = 2 * q := by rw [List.length_take]; omega
 rw [List.append_assoc, List.getD_eq_getElem?_getD]
 by_cases hi : i < q
 ·rw [if_pos hi, List.getElem?_append_left (by omega), List.getElem?_take, if_pos (by omega), List.getD_eq_getElem?_getD]
 ·rw [if_neg hi, List.getElem?_append_right (by omega), h1]
  by_cases he : i = q
  ·rw [if_pos he, show 2 * i - 2 * q = 0 from by omega]; rfl
  ·rw [if_neg he, List.getElem?_append_right (by simp; omega)]
   rw [List.getElem?_drop, List.getD_eq_getElem?_getD]
   simp only [List.length_cons, List.length_nil]
   rw [show 2 * q + (2 * i - 2 * q - (0 + 1 + 1)) = 2 * (i - 1) from by omega]
theorem insP_mem {l : List T} {q : Nat} {x y u : T} (h : u ∈ insP l q x y) : u ∈ l ∨ u = x ∨ u = y := by
 unfold insP at h
 simp only [List.mem_append, List.mem_cons, List.not_mem_nil, or_false] at h
 rcases h with (h | h) | h
 ·exact Or.inl (List.mem_of_mem_take h)
 ·exact Or.inr h
 ·exact Or.inl (List.mem_of_mem_drop h)
theorem getD_mem {L : List T} {i : Nat} (h : i < L.length) : L.getD i zT ∈ L := by
 rw [List.getD_eq_getElem?_getD, List.getElem?_eq_getElem h]; exact List.getElem_mem h
theorem srtP_mem (L : List T) : ∀ j, 2 * j ≤ L.length → ∀ u ∈ srtP L j, u ∈ L := by
 intro j
 induction j with
 | zero => intro _ u hu; cases hu
 | succ j ih =>
  intro hj u hu
  rw [srtP] at hu
  rcases insP_mem hu with h | h | h
  ·exact ih (by omega) u h
  ·rw [h]; exact getD_mem (by omega)
  ·rw [h]; exact getD_mem (by omega)
theorem srtP_name (L : List T) : ∀ j i, i < j → ∃ a, a < j ∧ (srtP L j).getD (2 * i) zT = L.getD (2 * a) zT := by
 intro j
 induction j with
 | zero => intro i h; omega
 | succ j ih =>
  intro i hi
  rw [srtP, insP_name _ _ _ _ _ (by have := posP_le (srtP L j) (L.getD (2 * j) zT) j; rw [srtP_len]; omega)]
  have hq := posP_le (srtP L j) (L.getD (2 * j) zT) j
  by_cases h1 : i < posP (srtP L j) (L.getD (2 * j) zT) j
  ·rw [if_pos h1]
   obtain ⟨a, ha, e⟩ := ih i (by omega)
   exact ⟨a, by omega, e⟩
  ·rw [if_neg h1]
   by_cases h2 : i = posP (srtP L j) (L.getD (2 * j) zT) j
   ·rw [if_pos h2]; exact ⟨j, by omega, rfl⟩
   ·rw [if_neg h2]
    obtain ⟨a, ha, e⟩ := ih (i - 1) (by omega)
    exact ⟨a, by omega, e⟩
def Apart (L : List T) (p : Nat) : Prop := ∀ a b, a < p → b < p → a ≠ b → packT (L.getD (2 * a) zT) ≠ packT (L.getD (2 * b) zT)
theorem srtP_asc (L : List T) (p : Nat) (hL : Apart L p) : ∀ j, j ≤ p → ∀ i, i + 1 < j → lexB (packT ((srtP L j).getD (2 * i) zT)) (packT ((srtP L j).getD (2 * (i + 1)) zT)) = true := by
 intro j
 induction j with
 | zero => intro _ i h; omega
 | succ j ih =>
  intro hj i hi
  have hq := posP_le (srtP L j) (L.getD (2 * j) zT) j
  have hlen : 2 * posP (srtP L j) (L.getD (2 * j) zT) j ≤ (srtP L j).length := by rw [srtP_len]; omega
  have hhi := posP_hi (srtP L j) (L.getD (2 * j) zT) j
  have hlo := posP_lo (srtP L j) (L.getD (2 * j) zT) j
  rw [srtP, insP_name _ _ i _ _ hlen, insP_name _ _ (i + 1) _ _ hlen]
  generalize posP (srtP L j) (L.getD (2 * j) zT) j = q at *
  by_cases h1 : i + 1 < q
  ·rw [if_pos (by omega), if_pos h1]; exact ih (by omega) i (by omega)
  by_cases h2 : i + 1 = q
  ·rw [if_pos (by omega), if_neg h1, if_pos h2]
   have := hlo (by omega)
   rw [show q - 1 = i from by omega] at this
   refine lexB_total _ _ ?_ this
   obtain ⟨a, ha, e⟩ := srtP_name L j i (by omega)
   rw [e]
   exact hL j a (by omega) (by omega) (by omega)
  by_cases h3 : i = q
  ·rw [if_neg (by omega), if_pos h3, if_neg h1, if_neg h2, show i + 1 - 1 = i from by omega]
   exact hhi i (by omega) (by omega)
  ·rw [if_neg (by omega), if_neg h3, if_neg h1, if_neg h2, show i + 1 - 1 = i - 1 + 1 from by omega]
   exact ih (by omega) (i - 1) (by omega)
theorem srtP_ascU (L : List T) (p : Nat) (hL : Apart L p) (hp : 2 * p ≤ L.length) : ∀ j, j ≤ p → ascU (evN (srtP L p) p) j = true := by
 have h := srtP_asc L p hL p (Nat.le_refl _)
 have hl := srtP_len L p
 intro j
 induction j with
 | zero => intro _; rfl
 | succ j ih =>
  intro hj
  cases j with
  | zero => rfl
  | succ j =>
   have e := evAsc_succ (srtP L p) p j (by rw [hl]; omega) (by rw [hl]; omega)
   rw [e, ih (by omega), Bool.true_and]
   have := h j (by omega)
   rw [List.getD_eq_getElem?_getD, List.getD_eq_getElem?_getD, List.getElem?_eq_getElem (by rw [hl]; omega), List.getElem?_eq_getElem (by rw [hl]; omega)] at this
   exact this
mutual
def tg : T → T
 | .mk k n x s l => if k = 6 then .mk 7 0 0 (decTx n (-x).toNat) [] else .mk k n x s (if k = 10 then srtP (fixN [] (tgs l)) (l.length / 2) else tgs l)
def tgs : List T → List T
 | [] => []
 | t :: r => tg t :: tgs r
end
theorem tgs_map : ∀ l : List T, tgs l = l.map tg := by
 intro l
 induction l with
 | nil => rfl
 | cons t r ih => rw [tgs, ih]; rfl
def tqQ (t : T) : Prop := ownQ t.k t.n t.x t.s t.l.length ∧ t.s.size ≤ 200 ∧ t.l.length ≤ 6 ∧ t.k ≠ 6 ∧ tightU t = true
theorem tqQ_tgQ {t : T} (h : tqQ t) : tgQ t := ⟨h.1, h.2.2.2.1, by have := h.2.1; omega, by have := h.2.2.1; omega⟩
theorem tg_name {t : T} (h : namQ t) : tg t = t := by
 obtain ⟨h1, h2, h3⟩ := h
 obtain ⟨k, n, x, s, l⟩ := t
 obtain rfl : l = [] := h1
 have hk : k = 3 ∨ k = 7 := by
  rcases h3 with h | h
  ·exact Or.inl h.1
  ·exact Or.inr h.1
 rw [tg, if_neg (by omega), if_neg (by omega)]; rfl
theorem onceN_ne (ns : List T) : ∀ n, n ≤ ns.length → onceN ns n = true → ∀ a b (ha : a < ns.length) (hb : b < ns.length), a < b → b < n → ns[a] ≠ ns[b] := by
 intro n
 induction n with
 | zero => intro _ _ a b _ _ _ h; omega
 | succ n ih =>
  intro hn h a b ha hb hab hbn
  rw [onceN_succ ns n (by omega), Bool.and_eq_true, Bool.not_eq_true', List.any_eq_false] at h
  rcases Nat.lt_or_ge b n with hb2 | hb2
  ·exact ih (by omega) h.1 a b ha hb hab hb2
  ·obtain rfl : b = n := by omega
   have := h.2 ns[a] (by
    rw [List.mem_take_iff_getElem]
    exact ⟨a, by omega, rfl⟩)
   rwa [sameT_iff] at this
theorem leaf_tgQ {k n x : Int} {s : ByteArray} (h : ownQ k n x s 0) (hk : k ≠ 6) (hs : s.size ≤ 200) : AllT tgQ (.mk k n x s []) := by
 rw [AllT_iff]
 exact ⟨⟨h, hk, by show (s.size : Int) ≤ _; omega, by show ((0 : Nat) : Int) ≤ _; decide⟩, by simp [T.l]⟩
theorem nam_tgQ {t : T} (h : namQ t) : AllT tgQ t := by
 have h1 := nam_own h; have h2 := nam_size h
 obtain ⟨h3, _, h4⟩ := h
 obtain ⟨k, n, x, s, l⟩ := t
 obtain rfl : l = [] := h3
 exact leaf_tgQ h1 (by rcases h4 with h | h; have := h.1; simp only [T.k] at this; omega; have := h.1; simp only [T.k] at this; omega) (by have : s.size ≤ 3 := h2; omega)
theorem kName_tgQ {i : Nat} (h : i < 10) : AllT tgQ (kName i) := leaf_tgQ (kName_own i) (by decide) (kName_size i h)
theorem fix_apart {L : List T} (h : NmOk L) (hl : L.length ≤ 6) (p : Nat) (hp : 2 * p ≤ L.length) : Apart L p := by
 have hpp : p ≤ (L.length + 1) / 2 := by omega
 have hnm : ∀ a, a < p → AllT tgQ (L.getD (2 * a) zT) := by
  intro a ha
  rw [List.getD_eq_getElem?_getD, List.getElem?_eq_getElem (show 2 * a < L.length by omega), Option.getD_some]
  rcases h.2 (2 * a) (by omega) (by omega) with hn | hn
  ·exact nam_tgQ hn
  ·rw [hn]; exact kName_tgQ (by omega)
 have key : ∀ a b, a < b → b < p → packT (L.getD (2 * a) zT) ≠ packT (L.getD (2 * b) zT) := by
  intro a b hab hb e
  have e2 := packT_inj (hnm a (by omega)) (hnm b hb) e
  rw [List.getD_eq_getElem?_getD, List.getD_eq_getElem?_getD, List.getElem?_eq_getElem (show 2 * a < L.length by omega), List.getElem?_eq_getElem (show 2 * b < L.length by omega), Option.getD_some, Option.getD_some] at e2
  have hlen := evN_len L ((L.length + 1) / 2)
  have := onceN_ne _ _ (Nat.le_refl _) h.1 a b (by rw [hlen]; omega) (by rw [hlen]; omega) hab (by rw [hlen]; omega)
  rw [evN_get L _ a (by omega) (by omega), evN_get L _ b (by omega) (by omega)] at this
  exact this e2
 intro a b ha hb hne e
 rcases Nat.lt_or_ge a b with h1 | h1
 ·exact key a b h1 hb e
 ·exact key b a (by omega) ha e.symm
theorem tg_ok : ∀ t : T, AllT drQ t → AllT tqQ (tg t) ∧ T.depth (tg t) ≤ T.depth t := by
 apply T.ind
 intro k n x s l ih h
 rw [AllT_iff] at h
 obtain ⟨⟨hq, hs, hl, hnm⟩, hall⟩ := h
 simp only [T.k, T.n, T.x, T.s, T.l] at hq hs hl hnm hall
 rw [tg]
 by_cases k6 : k = 6
 ·rw [if_pos k6]
  refine ⟨(AllT_iff _ _).2 ⟨⟨(own7 _ _ _ _).2 ⟨rfl, rfl, rfl, (decTx_asc _ _).valid⟩, decTx_size _ _, by simp [T.l], by simp [T.k], ?_⟩, by simp [T.l]⟩, ?_⟩
  ·rw [tightU_not (by simp [T.k])]; rfl
  ·rw [depth_one]; simp [T.depth]
 rw [if_neg k6]
 have hD : ∀ u ∈ l, T.depth (tg u) ≤ T.depthL l := by
  intro u hu
  obtain ⟨i, hi, rfl⟩ := mem_get hu
  exact Nat.le_trans (ih _ hu (hall _ hu)).2 (T.depth_get l i hi)
 rw [tgs_map]
 by_cases k10 : k = 10
 ·subst k10
  rw [if_pos rfl]
  have hlen : (l.map tg).length = l.length := by simp
  have hev := ((own10 _ _ _ _).1 hq).2.2
  have hnames : ∀ i (h : i < (l.map tg).length), i % 2 = 0 → namQ (l.map tg)[i] := by
   intro i hi hp
   rw [List.getElem_map]
   have := hnm rfl i (by simpa using hi) hp
   rw [tg_name this]; exact this
  have hok := fixN_ok (l.map tg) (by omega) hnames _ (Nat.le_refl _)
  have hmm := fixN_mem (l.map tg) _ (Nat.le_refl _)
  rw [List.take_length] at hok hmm
  have hfl : (fixN [] (l.map tg)).length = l.length := by rw [fixN_len]; simp
  have hap := fix_apart hok (by omega) (l.length / 2) (by omega)
  have hsl : (srtP (fixN [] (l.map tg)) (l.length / 2)).length = l.length := by rw [srtP_len]; omega
  have hch : ∀ u ∈ srtP (fixN [] (l.map tg)) (l.length / 2), AllT tqQ u ∧ T.depth u ≤ T.depthL l := by
   intro u hu
   have hu2 := srtP_mem _ _ (by omega) u hu
   rcases hmm u hu2 with h | ⟨i, hi, rfl⟩
   ·obtain ⟨v, hv, rfl⟩ := List.mem_map.1 h
    exact ⟨(ih v hv (hall v hv)).1, hD v hv⟩
   ·refine ⟨(AllT_iff _ _).2 ⟨⟨kName_own i, kName_size i (by omega), by simp [kName, T.l], by simp [kName, T.k], by rw [tightU_not (by simp [kName, T.k])]; rfl⟩, by simp [kName, T.l]⟩, ?_⟩
    have h1 : T.depth (kName i) = 1 := depth_one _ _ _ _
    rw [h1]
    have hpos : 0 < l.length := by omega
    have := T.depth_get l 0 hpos
    have h2 : 1 ≤ T.depth l[0] := by rw [T.depth_eta0]; omega
    omega
  refine ⟨(AllT_iff _ _).2 ⟨⟨by simp only [T.k, T.n, T.x, T.s, T.l]; rw [hsl]; exact hq, by simp only [T.s]; omega, by simp only [T.l]; omega, by simp [T.k], ?_⟩, fun u hu => (hch u hu).1⟩, ?_⟩
  ·rw [tightU_map (by rfl)]
   simp only [T.l]
   rw [hsl, show (l.length + 1) / 2 = l.length / 2 from by omega]
   exact srtP_ascU _ _ hap (by omega) _ (Nat.le_refl _)
  ·simp only [T.depth]
   have := depthL_le (fun u hu => (hch u hu).2)
   omega
 ·rw [if_neg k10]
  refine ⟨(AllT_iff _ _).2 ⟨⟨by simp only [T.k, T.n, T.x, T.s, T.l]; rw [List.length_map]; exact hq, by simp only [T.s]; omega, by simp only [T.l]; rw [List.length_map]; exact hl, k6, by rw [tightU_not (t := .mk k n x s (l.map tg)) k10]; exact decide_eq_true k6⟩, fun u hu => ?_⟩, ?_⟩
  ·obtain ⟨v, hv, rfl⟩ := List.mem_map.1 hu
   exact (ih v hv (hall v hv)).1
  ·simp only [T.depth]
   have : T.depthL (l.map tg) ≤ T.depthL l := depthL_le (fun u hu => by
    obtain ⟨v, hv, rfl⟩ := List.mem_map.1 hu
    exact hD v hv)
   omega
theorem countL_two (x y : T) : T.countL [x, y] = T.count x + T.count y := by simp [T.countL]
theorem insP_count (l : List T) (q : Nat) (x y : T) : T.countL (insP l q x y) = T.countL l + T.count x + T.count y := by
 unfold insP
 have h := congrArg T.countL (List.take_append_drop (2 * q) l)
 rw [T.countL_append] at h
 rw [T.countL_append, T.countL_append, countL_two]; omega
theorem srtP_count (L : List T) : ∀ j, 2 * j ≤ L.length → T.countL (srtP L j) ≤ T.countL (L.take (2 * j)) := by
 intro j
 induction j with
 | zero => intro _; simp [srtP]
 | succ j ih =>
  intro hj
  have h1 := T.countL_take_succ L (2 * j) (by omega)
  have h2 := T.countL_take_succ L (2 * j + 1) (by omega)
  have := ih (by omega)
  rw [srtP, insP_count, List.getD_eq_getElem?_getD, List.getD_eq_getElem?_getD, List.getElem?_eq_getElem (show 2 * j < L.length by omega), List.getElem?_eq_getElem (show 2 * j + 1 < L.length by omega), Option.getD_some, Option.getD_some]
  rw [show 2 * (j + 1) = 2 * j + 1 + 1 from by omega, h2, h1]; omega
theorem tg_count : ∀ t : T, AllT drQ t → T.count (tg t) ≤ T.count t := by
 apply T.ind
 intro k n x s l ih h
 rw [AllT_iff] at h
 obtain ⟨⟨hq, hs, hl, hnm⟩, hall⟩ := h
 simp only [T.k, T.n, T.x, T.s, T.l] at hq hs hl hnm hall
 rw [tg, tgs_map]
 have hm := countL_map (f := tg) l (fun t ht => ih t ht (hall t ht)) l.length
 rw [List.take_length, List.take_of_length_le (by simp)] at hm
 by_cases k6 : k = 6
 ·rw [if_pos k6]; simp [T.count, T.countL]
 rw [if_neg k6]
 by_cases k10 : k = 10
 ·rw [if_pos k10]
  have h1 := fixN_count (l.map tg) _ (Nat.le_refl _)
  rw [List.take_length] at h1
  have h2 := srtP_count (fixN [] (l.map tg)) (l.length / 2) (by rw [fixN_len]; simp; omega)
  have h3 := T.countL_take_le (fixN [] (l.map tg)) (2 * (l.length / 2))
  simp only [T.count]; omega
 ·rw [if_neg k10]; simp only [T.count]; omega
theorem tq_sz : ∀ t : T, ∀ D, AllT tqQ t → T.depth t ≤ D → T.sz t ≤ szB D := by
 apply T.ind
 intro k n x s l ih D h hd
 rw [AllT_iff] at h
 obtain ⟨⟨_, hs, hl, _⟩, hall⟩ := h
 simp only [T.s, T.l] at hs hl hall
 cases D with
 | zero => simp [T.depth] at hd
 | succ D =>
  simp only [T.depth] at hd
  have key : ∀ r : List T, (∀ u ∈ r, u ∈ l) → T.szL r ≤ r.length * (1 + szB D) := by
   intro r
   induction r with
   | nil => intro _; simp [T.szL]
   | cons u r ihr =>
    intro hm
    have hu := hm u (by simp)
    obtain ⟨i, hi, he⟩ := List.getElem_of_mem hu
    have h1 := ih u hu D (hall u hu) (by have := T.depth_get l i hi; rw [he] at this; omega)
    have h2 := ihr (fun v hv => hm v (by simp [hv]))
    simp only [T.szL, List.length_cons, Nat.succ_mul]
    omega
  have h1 := key l (fun _ h => h)
  have h2 : l.length * (1 + szB D) ≤ 6 * (1 + szB D) := Nat.mul_le_mul_right _ hl
  simp only [T.sz, szB]; omega
end Go.Proofs.YtggdenkmohnijaaGreatDoor
