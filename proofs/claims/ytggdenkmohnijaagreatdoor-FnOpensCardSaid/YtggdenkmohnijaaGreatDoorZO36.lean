/- Texts of this proof, merged: OpR, DrwO. No condition beyond what each theorem states. -/
import Derived.Test.YtggdenkmohnijaaGreatDoorZO34
set_option linter.unusedSimpArgs false
set_option linter.unnecessarySimpa false
namespace Go.Proofs.YtggdenkmohnijaaGreatDoor
open Go.ChangeShapes Go.WideShapes Go.ChangeAt Go.RowKit Go.Joins
set_option linter.unusedVariables false
set_option maxRecDepth 100000
theorem headOk8 {m n : Int} (hm : 0 ≤ m ∧ m ≤ 7) (hn : 0 ≤ n ∧ n ≤ 1000000000000000) : headOk m n 8 := by
 have := widthD_in n hn.1
 exact ⟨hm, hn, Or.inr (Or.inl ⟨by omega, by omega⟩)⟩
theorem nuG_rd (o : Bool) {mj n : Int} (h0 : 0 ≤ mj ∧ mj ≤ 7) (h1 : 0 ≤ n ∧ n ≤ 1000000000000000) (r : List Int) : ∃ w, w ≠ -1 ∧ rdH (nuG o mj n ++ r) = .ok ((mj, n, w), (nuG o mj n).length) := by
 cases o
 ·exact ⟨8, by decide, rdH_ok (headOk8 h0 h1) r⟩
 ·exact rdH_hd h0 h1 r
theorem rdH_posG {l : List Int} {x : Int × Int × Int} {u : Nat} (h : rdH l = .ok (x, u)) : 1 ≤ u := by
 cases l with
 | nil => cases h
 | cons c r =>
  rw [rdH] at h
  repeat' split at h
  all_goals first | (cases h; done) | (cases h; omega)
theorem rdT_posG {d : Nat} {l : List Int} {t : T} {v : Nat} (h : rdT d l = .ok (t, v)) : 1 ≤ v := by
 cases d with
 | zero => cases h
 | succ d =>
  rw [rdT] at h
  cases hh : rdH l with
  | error c => rw [hh] at h; cases h
  | ok x =>
   obtain ⟨⟨mj, n, w⟩, u⟩ := x
   rw [hh] at h
   simp only at h
   have := rdH_posG hh
   cases hb : rdBody (rdT d) mj n w (l.drop u) with
   | error c => rw [hb] at h; cases h
   | ok y =>
    obtain ⟨t', v'⟩ := y
    rw [hb] at h
    cases h; omega
theorem rdT_255G {d : Nat} {l : List Int} {x : T × Nat} (h : rdT d l = .ok x) : l.getD 0 0 ≠ 255 := by
 cases d with
 | zero => cases h
 | succ d =>
  cases l with
  | nil => cases h
  | cons c r =>
   intro hc
   obtain rfl : c = 255 := hc
   have : rdT (d + 1) (255 :: r) = .error 1 := by
    rw [rdT]; rfl
   rw [this] at h; cases h
theorem rdOpen_okG (f : List Int → Except Int (T × Nat)) (g : T → List Int) (q : Bool) : ∀ (l : List T), (∀ t ∈ l, ∀ r, f (g t ++ r) = .ok (t, (g t).length)) → (∀ t ∈ l, ∀ r, (g t ++ r).getD 0 0 ≠ 255) → ∀ (p : Bool) (k : Nat) (r : List Int), l.length + 1 ≤ k → (q = true → l.length % 2 = (if p = true then 1 else 0)) →
  rdOpen f q p k ((l.map g).flatten ++ (255 :: r)) = .ok (l, ((l.map g).flatten).length + 1) := by
 intro l
 induction l with
 | nil =>
  intro _ _ p k r hk hp
  obtain ⟨k, rfl⟩ : ∃ j, k = j + 1 := ⟨k - 1, by omega⟩
  rw [List.map_nil, List.flatten_nil, List.nil_append, rdOpen, if_pos (show (255 :: r).getD 0 0 = 255 from rfl), if_neg]
  ·rfl
  ·rintro ⟨h1, h2⟩
   have := hp h1
   rw [if_pos h2] at this
   simp at this
 | cons t l ih =>
  intro h1 h2 p k r hk hp
  obtain ⟨k, rfl⟩ : ∃ j, k = j + 1 := ⟨k - 1, by omega⟩
  rw [List.map_cons, List.flatten_cons, List.append_assoc, rdOpen, if_neg (h2 t (by simp) _), h1 t (by simp)]
  simp only
  rw [List.drop_left, ih (fun u hu => h1 u (by simp [hu])) (fun u hu => h2 u (by simp [hu])) (!p) k r (by simp only [List.length_cons] at hk; omega) (fun hq => by
   have h3 := hp hq
   simp only [List.length_cons] at h3
   cases p
   ·simp only [Bool.false_eq_true, if_false] at h3; simp only [Bool.not_false, if_true]; omega
   ·simp only [if_true] at h3; simp only [Bool.not_true, Bool.false_eq_true, if_false]; omega)]
  simp only [List.length_append, Nat.add_assoc]
theorem packGs_flat (o : Bool) (l : List T) : packGs o l = (l.map (packG o)).flatten := by
 induction l with
 | nil => simp [packGs]
 | cons t r ih => rw [packGs, ih, List.map_cons, List.flatten_cons]
theorem rdManyG_ok (o : Bool) (f : List Int → Except Int (T × Nat)) : ∀ (l : List T), (∀ t ∈ l, ∀ r, f (packG o t ++ r) = .ok (t, (packG o t).length)) → ∀ r, rdMany f l.length (packGs o l ++ r) = .ok (l, (packGs o l).length) := by
 intro l
 induction l with
 | nil => intro _ r; simp [packGs, rdMany]
 | cons t l ih =>
  intro h r
  rw [List.length_cons, packGs, List.append_assoc, rdMany, h t (by simp)]
  simp only
  rw [List.drop_left, ih (fun u hu => h u (by simp [hu])) r]
  simp [List.length_append]
theorem packGs_ge (o : Bool) (d : Nat) (l : List T) (h : ∀ t ∈ l, ∀ r, rdT d (packG o t ++ r) = .ok (t, (packG o t).length)) : l.length ≤ (packGs o l).length := by
 induction l with
 | nil => exact Nat.zero_le _
 | cons t l ihl =>
  have h5 := rdT_posG (h t (by simp) [])
  have h6 := ihl (fun u hu => h u (by simp [hu]))
  rw [packGs, List.length_append, List.length_cons]; omega
theorem rdParts_okG {mj : Int} (hm : mj = 2 ∨ mj = 3) (s : ByteArray) (hz : (s.size : Int) ≤ 1000000000000000) (hv : mj = 3 → Lib.validD s.data.toList = true) (k : Nat) (r : List Int) :
  rdParts mj (k + 2) (((if s.size = 0 then [] else hdL mj s.size ++ byteL s) ++ [255]) ++ r) = .ok (byteL s, ((if s.size = 0 then [] else hdL mj s.size ++ byteL s) ++ [255]).length) := by
 by_cases h0 : s.size = 0
 ·have hb : byteL s = [] := List.eq_nil_of_length_eq_zero (by rw [byteL_len, h0])
  rw [if_pos h0, hb, List.nil_append, rdParts, if_pos (show ([(255 : Int)] ++ r).getD 0 0 = 255 from rfl)]; rfl
 ·rw [if_neg h0]
  have he : ((hdL mj s.size ++ byteL s) ++ [255]) ++ r = hdL mj s.size ++ (byteL s ++ (255 :: r)) := by simp only [List.append_assoc, List.singleton_append]
  obtain ⟨w, hw1, hw⟩ := rdH_hd (mj := mj) (n := (s.size : Int)) (by omega) (by omega) (byteL s ++ (255 :: r))
  have hne : ¬ (hdL mj s.size ++ (byteL s ++ (255 :: r))).getD 0 0 = 255 := by
   unfold hdL
   rw [headForD_ok (by omega) (by omega)]
   have hk := headFor_ok (maj := mj) (n := (s.size : Int)) (by omega) (by omega)
   have hI := infoD_in hk
   unfold headL
   rw [if_pos hk]
   show ¬ (32 * mj + infoD (s.size : Int) (if 23 < (s.size : Int) then widthD s.size else 0) = 255)
   rcases hm with rfl | rfl <;> omega
  have hs : rdStr mj s.size (byteL s ++ (255 :: r)) = .ok (byteL s, s.size) := by
   unfold rdStr
   rw [if_neg (by rw [List.length_append, byteL_len]; omega), Int.toNat_natCast, List.take_append_of_le_length (by rw [byteL_len]; exact Nat.le_refl _), List.take_of_length_le (by rw [byteL_len]; exact Nat.le_refl _), byteL_str, if_neg (by rintro ⟨h, h2⟩; rw [hv h] at h2; cases h2)]
  rw [he, rdParts, if_neg hne, hw]
  simp only
  rw [if_neg (by rintro (h | h); exact h rfl; exact hw1 h), List.drop_left, hs]
  simp only
  rw [show s.size = (byteL s).length from (byteL_len s).symm, List.drop_left, rdParts, if_pos (show (255 :: r).getD 0 0 = 255 from rfl)]
  simp only [List.append_nil, List.length_append, List.length_cons, List.length_nil]
theorem rdT_packG (o : Bool) : ∀ t : T, AllT tgQ t → ∀ d, T.depth t ≤ d → ∀ r, rdT d (packG o t ++ r) = .ok (t, (packG o t).length) := by
 apply T.ind
 intro k n x s l ih ho d hd r
 have hall0 := ho
 rw [AllT_iff] at ho
 obtain ⟨⟨hq, h6, hss, hll⟩, hall⟩ := ho
 simp only [T.k, T.n, T.x, T.s, T.l] at hq h6 hss hll hall
 by_cases hp : ¬ (k = 3 ∨ k = 7 ∨ k = 8 ∨ k = 9 ∨ k = 10 ∨ k = 11)
 ·rw [packG_plain o k n x s l (Or.inr (by omega)) (by omega)]
  exact ((rdT_both _ hall0 d).1 hd) r
 have hdep : T.depth (.mk k n x s l) = T.depthL l + 1 := by simp [T.depth]
 rw [hdep] at hd
 obtain ⟨d, rfl⟩ : ∃ j, d = j + 1 := ⟨d - 1, by omega⟩
 have hch : ∀ t ∈ l, ∀ r, rdT d (packG o t ++ r) = .ok (t, (packG o t).length) := fun t ht => ih t ht (hall t ht) d (by obtain ⟨i, hi, rfl⟩ := mem_get ht; have := T.depth_get l i hi; omega)
 rcases Classical.not_not.1 hp with rfl | rfl | rfl | rfl | rfl | rfl
 ·obtain ⟨h1, h2, h3, h4⟩ := (own3 _ _ _ _).1 hq
  obtain rfl := bytes_nil h1; obtain rfl := List.length_eq_zero_iff.1 h3; subst h2
  rw [packG, if_neg (by decide), if_neg (by decide), if_pos rfl, if_pos h4]
  by_cases hn : n < 0
  ·rw [if_pos hn]
   obtain ⟨w, _, hw⟩ := nuG_rd o (mj := 1) (n := -1 - n) (by decide) (by omega) r
   rw [rdT_step d hw]
   have : rdBody (rdT d) 1 (-1 - n) w ((nuG o 1 (-1 - n) ++ r).drop (nuG o 1 (-1 - n)).length) = .ok (.mk 3 n 0 ⟨#[]⟩ [], 0) := by
    unfold rdBody
    rw [if_neg (by decide), if_pos rfl, if_neg (by omega), show -1 - (-1 - n) = n from by omega]
   rw [this]; rfl
  ·rw [if_neg hn]
   obtain ⟨w, _, hw⟩ := nuG_rd o (mj := 0) (n := n) (by decide) (by omega) r
   rw [rdT_step d hw]; rfl
 ·obtain ⟨h1, h2, h3, h4⟩ := (own7 _ _ _ _).1 hq
  obtain rfl := List.length_eq_zero_iff.1 h2; subst h1; subst h3
  rw [packG, if_neg (by decide), if_neg (by decide), if_neg (by decide), if_neg (by decide), if_neg (by decide), if_pos rfl]
  cases o with
  | false =>
   rw [txG, if_neg Bool.false_ne_true, List.append_assoc]
   rw [rdT_step d (rdH_ok (headOk8 (m := 3) (n := (s.size : Int)) (by decide) (by omega)) (byteL s ++ r)), List.drop_left]
   unfold rdBody rdStr
   rw [if_neg (by decide), if_neg (by decide), if_pos (Or.inr rfl), if_neg (by decide), if_neg (by rw [List.length_append, byteL_len]; omega), Int.toNat_natCast, List.take_append_of_le_length (by rw [byteL_len]; exact Nat.le_refl _), List.take_of_length_le (by rw [byteL_len]; exact Nat.le_refl _), byteL_str, if_neg (by rw [h4]; simp)]
   simp only [if_true, byteL_str, List.length_append, byteL_len]
  | true =>
   rw [txG, if_pos rfl, List.append_assoc]
   rw [rdT_step d (rdH_ok (show headOk 3 0 (-1) by decide) _), List.drop_left]
   unfold rdBody
   rw [if_neg (by decide), if_neg (by decide), if_pos (Or.inr rfl), if_pos rfl]
   have hf1 : 1 ≤ (((if s.size = 0 then [] else hdL 3 s.size ++ byteL s) ++ [255]) ++ r).length := by simp only [List.length_append, List.length_cons, List.length_nil]; omega
   obtain ⟨f, hf⟩ : ∃ f, (((if s.size = 0 then [] else hdL 3 s.size ++ byteL s) ++ [255]) ++ r).length + 1 = f + 2 := ⟨(((if s.size = 0 then [] else hdL 3 s.size ++ byteL s) ++ [255]) ++ r).length - 1, by omega⟩
   rw [hf, rdParts_okG (Or.inr rfl) s hss (fun _ => h4)]
   simp only [if_true, byteL_str, List.length_append]
 ·obtain ⟨h1, h2, h3⟩ := (own8 _ _ _ _).1 hq
  obtain rfl := List.length_eq_zero_iff.1 h2; subst h1; subst h3
  rw [packG, if_neg (by decide), if_neg (by decide), if_neg (by decide), if_neg (by decide), if_neg (by decide), if_neg (by decide), if_pos rfl]
  cases o with
  | false =>
   rw [txG, if_neg Bool.false_ne_true, List.append_assoc]
   rw [rdT_step d (rdH_ok (headOk8 (m := 2) (n := (s.size : Int)) (by decide) (by omega)) (byteL s ++ r)), List.drop_left]
   unfold rdBody rdStr
   rw [if_neg (by decide), if_neg (by decide), if_pos (Or.inl rfl), if_neg (by decide), if_neg (by rw [List.length_append, byteL_len]; omega), Int.toNat_natCast, List.take_append_of_le_length (by rw [byteL_len]; exact Nat.le_refl _), List.take_of_length_le (by rw [byteL_len]; exact Nat.le_refl _), byteL_str, if_neg (by rintro ⟨h, _⟩; exact absurd h (by decide))]
   simp only [byteL_str, List.length_append, byteL_len]
   rfl
  | true =>
   rw [txG, if_pos rfl, List.append_assoc]
   rw [rdT_step d (rdH_ok (show headOk 2 0 (-1) by decide) _), List.drop_left]
   unfold rdBody
   rw [if_neg (by decide), if_neg (by decide), if_pos (Or.inl rfl), if_pos rfl]
   have hf1 : 1 ≤ (((if s.size = 0 then [] else hdL 2 s.size ++ byteL s) ++ [255]) ++ r).length := by simp only [List.length_append, List.length_cons, List.length_nil]; omega
   obtain ⟨f, hf⟩ : ∃ f, (((if s.size = 0 then [] else hdL 2 s.size ++ byteL s) ++ [255]) ++ r).length + 1 = f + 2 := ⟨(((if s.size = 0 then [] else hdL 2 s.size ++ byteL s) ++ [255]) ++ r).length - 1, by omega⟩
   rw [hf, rdParts_okG (Or.inl rfl) s hss (fun h => absurd h (by decide))]
   simp only [byteL_str, List.length_append]
   rfl
 ·obtain ⟨h1, h2, h3⟩ := (own9 _ _ _ _).1 hq
  obtain rfl := bytes_nil h1; subst h2; subst h3
  rw [packG, if_neg (by decide), if_neg (by decide), if_neg (by decide), if_neg (by decide), if_neg (by decide), if_neg (by decide), if_neg (by decide), if_pos rfl]
  cases o with
  | false =>
   rw [elG, if_neg Bool.false_ne_true, List.append_assoc]
   rw [rdT_step d (rdH_ok (headOk8 (m := 4) (n := (l.length : Int)) (by decide) (by omega)) _), List.drop_left]
   unfold rdBody
   rw [if_neg (by decide), if_neg (by decide), if_neg (by decide), if_pos (Or.inl rfl), if_neg (by decide), if_neg (by decide), Int.toNat_natCast, rdManyG_ok false _ _ hch]
   simp only [List.length_append]
   rfl
  | true =>
   rw [elG, if_pos rfl, List.append_assoc]
   rw [rdT_step d (rdH_ok (show headOk 4 0 (-1) by decide) _), List.drop_left]
   unfold rdBody
   rw [if_neg (by decide), if_neg (by decide), if_neg (by decide), if_pos (Or.inl rfl), if_pos rfl]
   have hlen : l.length + 1 ≤ ((packGs true l ++ [255]) ++ r).length + 1 := by
    have := packGs_ge true d l hch
    simp only [List.length_append]; omega
   generalize hk : ((packGs true l ++ [255]) ++ r).length + 1 = kk at *
   have h7 := rdOpen_okG (rdT d) (packG true) false l hch (fun t ht r => rdT_255G (hch t ht r)) false kk r hlen (by intro h; cases h)
   rw [← packGs_flat] at h7
   rw [show (packGs true l ++ [255]) ++ r = packGs true l ++ (255 :: r) from by simp only [List.append_assoc, List.singleton_append], show (decide ((4 : Int) = 5)) = false from rfl, h7]
   simp only [List.length_append, List.length_cons, List.length_nil]
   rfl
 ·obtain ⟨h1, h2, h3, h4⟩ := (own10 _ _ _ _).1 hq
  obtain rfl := bytes_nil h1; subst h2; subst h3
  have e2 : 2 * (l.length / 2) = l.length := by omega
  rw [packG, if_neg (by decide), if_neg (by decide), if_neg (by decide), if_neg (by decide), if_neg (by decide), if_neg (by decide), if_neg (by decide), if_neg (by decide), if_pos rfl]
  cases o with
  | false =>
   rw [elG, if_neg Bool.false_ne_true, List.append_assoc]
   rw [rdT_step d (rdH_ok (headOk8 (m := 5) (n := ((l.length / 2 : Nat) : Int)) (by decide) (by omega)) _), List.drop_left]
   unfold rdBody
   rw [if_neg (by decide), if_neg (by decide), if_neg (by decide), if_pos (Or.inr rfl), if_neg (by decide), if_pos rfl, Int.toNat_natCast, e2, rdManyG_ok false _ _ hch]
   simp only [List.length_append, if_true]
  | true =>
   rw [elG, if_pos rfl, List.append_assoc]
   rw [rdT_step d (rdH_ok (show headOk 5 0 (-1) by decide) _), List.drop_left]
   unfold rdBody
   rw [if_neg (by decide), if_neg (by decide), if_neg (by decide), if_pos (Or.inr rfl), if_pos rfl]
   have hlen : l.length + 1 ≤ ((packGs true l ++ [255]) ++ r).length + 1 := by
    have := packGs_ge true d l hch
    simp only [List.length_append]; omega
   generalize hk : ((packGs true l ++ [255]) ++ r).length + 1 = kk at *
   have h7 := rdOpen_okG (rdT d) (packG true) true l hch (fun t ht r => rdT_255G (hch t ht r)) false kk r hlen (by intro _; simp only [Bool.false_eq_true, if_false]; omega)
   rw [← packGs_flat] at h7
   rw [show (packGs true l ++ [255]) ++ r = packGs true l ++ (255 :: r) from by simp only [List.append_assoc, List.singleton_append], show (decide ((5 : Int) = 5)) = true from rfl, h7]
   simp only [if_true, List.length_append, List.length_cons, List.length_nil]
 ·obtain ⟨h1, h2, h3, h4⟩ := (own11 _ _ _ _).1 hq
  obtain rfl := bytes_nil h1; subst h2
  obtain ⟨t, rfl⟩ : ∃ t, l = [t] := List.length_eq_one_iff.1 h4
  have e : packG o (.mk 11 n 0 ⟨#[]⟩ [t]) = nuG o 6 n ++ packG o t := by rw [packG, if_neg (by decide), if_neg (by decide), if_neg (by decide), if_neg (by decide), if_neg (by decide), if_neg (by decide), if_neg (by decide), if_neg (by decide), if_neg (by decide), if_pos rfl, if_pos h3, packGs, packGs, List.append_nil]
  rw [e]
  obtain ⟨w, _, hw⟩ := nuG_rd o (mj := 6) (n := n) (by decide) h3 (packG o t ++ r)
  rw [List.append_assoc, rdT_step d hw, List.drop_left]
  unfold rdBody
  rw [if_neg (by decide), if_neg (by decide), if_neg (by decide), if_neg (by decide), if_pos rfl, hch t (by simp)]
  simp only [List.length_append]
theorem headL8_len {m n : Int} (h : headOk m n 8) : (headL m n 8).length = 9 := by
 unfold headL
 rw [if_pos h, List.length_cons, bigL_len]; rfl
theorem nuG_le {m n : Int} (hm : 0 ≤ m ∧ m ≤ 7) (hn : 0 ≤ n ∧ n ≤ 1000000000000000) : (hdL m n).length ≤ (nuG false m n).length := by
 have h1 := hdL_len m n
 have h2 := headL8_len (headOk8 hm hn)
 show _ ≤ (headL m n 8).length
 omega
theorem packG_le : ∀ t : T, AllT tgQ t → (packT t).length ≤ (packG false t).length := by
 apply T.ind
 intro k n x s l ih ho
 rw [AllT_iff] at ho
 obtain ⟨⟨hq, h6, hss, hll⟩, hall⟩ := ho
 simp only [T.k, T.n, T.x, T.s, T.l] at hq h6 hss hll hall
 have hl : (packTs l).length ≤ (packGs false l).length := by
  clear hq h6 hss hll
  induction l with
  | nil => simp [packTs]
  | cons t l ihl =>
   have h5 := ih t (by simp) (hall t (by simp))
   have h6 := ihl (fun u hu => ih u (by simp [hu])) (fun u hu => hall u (by simp [hu]))
   rw [packGs, packTs, List.length_append, List.length_append]; omega
 by_cases hp : ¬ (k = 3 ∨ k = 7 ∨ k = 8 ∨ k = 9 ∨ k = 10 ∨ k = 11)
 ·rw [packG_plain false k n x s l (Or.inr (by omega)) (by omega)]; exact Nat.le_refl _
 rcases Classical.not_not.1 hp with rfl | rfl | rfl | rfl | rfl | rfl
 ·obtain ⟨h1, h2, h3, h4⟩ := (own3 _ _ _ _).1 hq
  rw [packG, packT]
  simp only [show ¬ ((3 : Int) = 1) by decide, show ¬ ((3 : Int) = 2) by decide, if_false, if_true, h4.1, h4.2, and_self]
  by_cases hn : n < 0
  ·simp only [hn, if_true]; exact nuG_le (by decide) (by omega)
  ·simp only [hn, if_false]; exact nuG_le (by decide) (by omega)
 ·have h9 := nuG_le (m := 3) (n := (s.size : Int)) (by decide) (by omega)
  rw [packG, packT]
  simp only [txG, if_neg Bool.false_ne_true, List.length_append]
  simp only [nuG, if_neg Bool.false_ne_true] at h9
  simp only [show ¬ ((7 : Int) = 1) by decide, show ¬ ((7 : Int) = 2) by decide, show ¬ ((7 : Int) = 3) by decide, show ¬ ((7 : Int) = 4) by decide, show ¬ ((7 : Int) = 5) by decide, if_false, if_true, List.length_append]
  omega
 ·have h9 := nuG_le (m := 2) (n := (s.size : Int)) (by decide) (by omega)
  rw [packG, packT]
  simp only [txG, if_neg Bool.false_ne_true, List.length_append]
  simp only [nuG, if_neg Bool.false_ne_true] at h9
  simp only [show ¬ ((8 : Int) = 1) by decide, show ¬ ((8 : Int) = 2) by decide, show ¬ ((8 : Int) = 3) by decide, show ¬ ((8 : Int) = 4) by decide, show ¬ ((8 : Int) = 5) by decide, show ¬ ((8 : Int) = 7) by decide, if_false, if_true, List.length_append]
  omega
 ·have h9 := nuG_le (m := 4) (n := (l.length : Int)) (by decide) (by omega)
  rw [packG, packT]
  simp only [nuG, if_neg Bool.false_ne_true] at h9
  simp only [elG, show ¬ ((9 : Int) = 1) by decide, show ¬ ((9 : Int) = 2) by decide, show ¬ ((9 : Int) = 3) by decide, show ¬ ((9 : Int) = 4) by decide, show ¬ ((9 : Int) = 5) by decide, show ¬ ((9 : Int) = 7) by decide, show ¬ ((9 : Int) = 8) by decide, Bool.false_eq_true, if_false, if_true, List.length_append]
  omega
 ·have h9 := nuG_le (m := 5) (n := ((l.length / 2 : Nat) : Int)) (by decide) (by omega)
  rw [packG, packT]
  simp only [nuG, if_neg Bool.false_ne_true] at h9
  simp only [elG, show ¬ ((10 : Int) = 1) by decide, show ¬ ((10 : Int) = 2) by decide, show ¬ ((10 : Int) = 3) by decide, show ¬ ((10 : Int) = 4) by decide, show ¬ ((10 : Int) = 5) by decide, show ¬ ((10 : Int) = 7) by decide, show ¬ ((10 : Int) = 8) by decide, show ¬ ((10 : Int) = 9) by decide, Bool.false_eq_true, if_false, if_true, List.length_append]
  omega
 ·obtain ⟨h1, h2, h3, h4⟩ := (own11 _ _ _ _).1 hq
  have h9 := nuG_le (m := 6) (n := n) (by decide) h3
  rw [packG, packT]
  simp only [nuG, if_neg Bool.false_ne_true] at h9
  simp only [nuG, h3, show ¬ ((11 : Int) = 1) by decide, show ¬ ((11 : Int) = 2) by decide, show ¬ ((11 : Int) = 3) by decide, show ¬ ((11 : Int) = 4) by decide, show ¬ ((11 : Int) = 5) by decide, show ¬ ((11 : Int) = 7) by decide, show ¬ ((11 : Int) = 8) by decide, show ¬ ((11 : Int) = 9) by decide, show ¬ ((11 : Int) = 10) by decide, Bool.false_eq_true, and_self, if_false, if_true, List.length_append]
  omega
set_option maxHeartbeats 4000000 in
theorem spec_DrawOpenUp (a : Option Addr) (cap B : Nat) (l : List Int) (w : World) (hr : Rd EByte 1 w B a cap l) (hB : B ≤ w.heap.size) (hl : l.length ≤ 1048576) :
  Calls Tryz.prog 35 #[.slice a l.length cap] w fun e w' => DrawnT (fun _ => True) w e w' := by
 have HR0 := Lib.hid (hr.below EByte.loc (below1 w (.cells zV 26)) hB)
 have HI0 := Lib.hid (Is.new w zV 26)
 clear hr
 go_enter Tryz.func35, Tryz.ntmps35
 go_wp2_with fail
 refine (spec_l1New a cap B l _ HR0.out (by simp; omega) hl).mono ?_
 rintro e w1 ⟨A, rfl, hA, hc1, hb1⟩
 rw [size_alloc] at hA hb1
 have HC1 := Lib.hid hc1; have HI1 := Lib.hid (HI0.out.below hb1 (by omega)); have HB1 := Lib.hid ((below1 w (.cells zV 26)).trans (hb1.mono (by omega)))
 clear hc1 hb1 HI0
 have hs1 : w.heap.size ≤ w1.heap.size := HB1.out.size
 have hi1 := HI1.out.lt
 go_wp2_with fail
 refine (spec_l6Any A w1 HC1.out).mono ?_
 rintro e w2 ⟨t, a3, c3, rfl, htw, hts, htz, _, hrn, hc2, hk2⟩
 have htz : T.sz t ≤ 60000 := by omega
 have HI2 := Lib.hid (hk2.is HI1.out (by omega)); have HK2 := Lib.hid hk2; have HR2 := Lib.hid hrn; have HC2 := Lib.hid hc2; clear hk2 hrn hc2
 have ff := fun i => HI2.out.frozen i; have lg := HI2.out.lt; obtain ⟨z0, z1, z2, z3, z4⟩ := HI2.out.cells5
 have hs2 := Kp.size HK2.out
 go_wp2_with fail
 obtain ⟨e0, e1, e2, e3, e4, hbel, hof, hsf⟩ := out5 HI2.out.blk (.int .i64 t.k) (.int .i64 t.n) (.int .i64 t.x) (.string t.s) (.slice a3 t.l.length c3) w.heap.size (Nat.le_refl _)
 refine bodyPost_ret (v := .agg (cV t a3 c3)) (by simp [results, Tryz.results35, go_sem, e0, e1, e2, e3, e4]) rfl ⟨t, a3, c3, rfl, htw, htz, trivial, ?_, (HB1.out.trans (HK2.out.1.mono (by omega))).trans hbel⟩
 exact (HR2.out.agree TV.elem.loc (fun f h1 _ => hof f (by omega)) (by rw [hsf]; omega)).r
set_option maxHeartbeats 4000000 in
theorem spec_DrawLooseTight (a : Option Addr) (cap B : Nat) (l : List Int) (w : World) (hr : Rd EByte 1 w B a cap l) (hB : B ≤ w.heap.size) (hl : l.length ≤ 1048576) :
  Calls Tryz.prog 36 #[.slice a l.length cap] w fun e w' => DrawnT (fun _ => True) w e w' := by
 have HR0 := Lib.hid (hr.below EByte.loc (below1 w (.cells zV 26)) hB)
 have HI0 := Lib.hid (Is.new w zV 26)
 clear hr
 go_enter Tryz.func36, Tryz.ntmps36
 go_wp2_with fail
 refine (spec_l1New a cap B l _ HR0.out (by simp; omega) hl).mono ?_
 rintro e w1 ⟨A, rfl, hA, hc1, hb1⟩
 rw [size_alloc] at hA hb1
 have HC1 := Lib.hid hc1; have HI1 := Lib.hid (HI0.out.below hb1 (by omega)); have HB1 := Lib.hid ((below1 w (.cells zV 26)).trans (hb1.mono (by omega)))
 clear hc1 hb1 HI0
 have hs1 : w.heap.size ≤ w1.heap.size := HB1.out.size
 have hi1 := HI1.out.lt
 go_wp2_with fail
 refine (spec_l6Any A w1 HC1.out).mono ?_
 rintro e w2 ⟨t, a3, c3, rfl, htw, hts, htz, _, hrn, hc2, hk2⟩
 have htz : T.sz t ≤ 60000 := by omega
 have HI2 := Lib.hid (hk2.is HI1.out (by omega)); have HK2 := Lib.hid hk2; have HR2 := Lib.hid hrn; have HC2 := Lib.hid hc2; clear hk2 hrn hc2
 have ff := fun i => HI2.out.frozen i; have lg := HI2.out.lt; obtain ⟨z0, z1, z2, z3, z4⟩ := HI2.out.cells5
 have hs2 := Kp.size HK2.out
 go_wp2_with fail
 obtain ⟨e0, e1, e2, e3, e4, hbel, hof, hsf⟩ := out5 HI2.out.blk (.int .i64 t.k) (.int .i64 t.n) (.int .i64 t.x) (.string t.s) (.slice a3 t.l.length c3) w.heap.size (Nat.le_refl _)
 refine bodyPost_ret (v := .agg (cV t a3 c3)) (by simp [results, Tryz.results36, go_sem, e0, e1, e2, e3, e4]) rfl ⟨t, a3, c3, rfl, htw, htz, trivial, ?_, (HB1.out.trans (HK2.out.1.mono (by omega))).trans hbel⟩
 exact (HR2.out.agree TV.elem.loc (fun f h1 _ => hof f (by omega)) (by rw [hsf]; omega)).r
end Go.Proofs.YtggdenkmohnijaaGreatDoor
