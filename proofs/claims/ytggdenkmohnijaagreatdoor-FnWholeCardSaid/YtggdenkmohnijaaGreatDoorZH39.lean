/- Texts of this proof, merged: TigS, LawAt, PkN, LawPackeds, TgN, Div, Div2, Near1, Near3, Near2, Near4, Half1, LeafP, LawTights. No condition beyond what each theorem states. -/
import Derived.Test.YtggdenkmohnijaaGreatDoorZH38
import Derived.Laws.BitsLemmas
import Derived.Lib.Mul64
import Derived.Shelf.Bits.Mul64
import Derived.Test.YtggdenkmohnijaaGreatDoorZH31
set_option linter.unusedSimpArgs false
set_option linter.unnecessarySimpa false
namespace Go.Proofs.YtggdenkmohnijaaGreatDoor
open Go.ChangeShapes Go.WideShapes Go.ChangeAt Go.RowKit Go.Joins
set_option linter.unusedVariables false
set_option maxRecDepth 100000
def Stb {β : Type} (f : List Int → Except Int β) (u : β → Nat) : Prop := (∀ l r, f l ≠ .error 1 → f (l ++ r) = f l) ∧ (∀ l x, f l = .ok x → u x ≤ l.length)
def bindE {β γ : Type} (x : Except Int β) (f : β → Except Int γ) : Except Int γ := match x with | .error c => .error c | .ok b => f b
theorem Stb.const {β : Type} {u : β → Nat} (x : Except Int β) (h : ∀ b, x = .ok b → u b = 0) : Stb (fun _ => x) u := ⟨fun _ _ _ => rfl, fun _ b hb => by rw [h b hb]; exact Nat.zero_le _⟩
theorem Stb.map {β γ : Type} {u : β → Nat} {v : γ → Nat} {f : List Int → Except Int β} (hf : Stb f u) (k : β → γ) (hk : ∀ b, v (k b) = u b) : Stb (fun l => bindE (f l) (fun b => .ok (k b))) v := by
 constructor
 ·intro l r h
  simp only [bindE] at h ⊢
  cases hb : f l with
  | error c => rw [hb] at h; rw [hf.1 l r (by rw [hb]; exact fun e => h (by cases e; rfl)), hb]
  | ok b => rw [hf.1 l r (by rw [hb]; simp), hb]
 ·intro l x h
  simp only [bindE] at h
  cases hb : f l with
  | error c => rw [hb] at h; cases h
  | ok b => rw [hb] at h; cases h; rw [hk]; exact hf.2 l b hb
theorem Stb.seq {β γ δ : Type} {u : β → Nat} {v : γ → Nat} {x : δ → Nat} {f : List Int → Except Int β} {g : β → List Int → Except Int γ} (hf : Stb f u) (hg : ∀ b, Stb (g b) v) (k : β → γ → δ) (hk : ∀ b c, x (k b c) = u b + v c) :
  Stb (fun l => bindE (f l) (fun b => bindE (g b (l.drop (u b))) (fun c => .ok (k b c)))) x := by
 constructor
 ·intro l r h
  simp only [bindE] at h ⊢
  cases hb : f l with
  | error c => rw [hb] at h; rw [hf.1 l r (by rw [hb]; exact fun e => h (by cases e; rfl)), hb]
  | ok b =>
   rw [hb] at h
   rw [hf.1 l r (by rw [hb]; simp), hb]
   dsimp only at h ⊢
   rw [List.drop_append_of_le_length (hf.2 l b hb)]
   cases hc : g b (l.drop (u b)) with
   | error c => rw [hc] at h; rw [(hg b).1 _ r (by rw [hc]; exact fun e => h (by cases e; rfl)), hc]
   | ok c => rw [(hg b).1 _ r (by rw [hc]; simp), hc]
 ·intro l y h
  simp only [bindE] at h
  cases hb : f l with
  | error c => rw [hb] at h; cases h
  | ok b =>
   rw [hb] at h
   dsimp only at h
   cases hc : g b (l.drop (u b)) with
   | error c => rw [hc] at h; cases h
   | ok c =>
    rw [hc] at h
    cases h
    have h1 := hf.2 l b hb
    have h2 := (hg b).2 _ c hc
    rw [List.length_drop] at h2
    rw [hk]; omega
theorem Stb.cut {β : Type} {f : List Int → Except Int β} {u : β → Nat} (hf : Stb f u) {l : List Int} {b : β} (h : f l = .ok b) {k : Nat} (hk : k < u b) : f (l.take k) = .error 1 := by
 by_cases he : f (l.take k) = .error 1
 ·exact he
 ·have h1 := hf.1 (l.take k) (l.drop k) he
  rw [List.take_append_drop, h] at h1
  have h2 := hf.2 _ b h1.symm
  rw [List.length_take] at h2
  omega
theorem rdH_stb : Stb rdH (fun x => x.2) := by
 constructor
 ·intro l r h
  cases l with
  | nil => exact absurd rfl h
  | cons c l =>
   rw [List.cons_append]
   rw [rdH] at h
   rw [rdH, rdH]
   by_cases h1 : c % 32 < 24
   ·rw [if_pos h1, if_pos h1]
   rw [if_neg h1] at h; rw [if_neg h1, if_neg h1]
   by_cases h2 : c % 32 = 31
   ·rw [if_pos h2, if_pos h2]
   rw [if_neg h2] at h; rw [if_neg h2, if_neg h2]
   by_cases h3 : 27 < c % 32 ∨ l.length < wideD (c % 32)
   ·rw [if_pos h3] at h; exact absurd rfl h
   have h3' : ¬ (27 < c % 32 ∨ (l ++ r).length < wideD (c % 32)) := by rw [List.length_append]; omega
   rw [if_neg h3, if_neg h3', List.take_append_of_le_length (by omega)]
 ·intro l x h
  cases l with
  | nil => cases h
  | cons c l =>
   rw [rdH] at h
   rw [List.length_cons]
   split at h
   ·cases h; exact Nat.succ_le_succ (Nat.zero_le _)
   ·split at h
    ·split at h
     ·cases h
     ·cases h; exact Nat.succ_le_succ (Nat.zero_le _)
    ·split at h
     ·cases h
     ·rename_i h3
      split at h
      ·cases h; show wideD (c % 32) + 1 ≤ _; omega
      ·cases h
theorem rdMany_stb {f : List Int → Except Int (T × Nat)} (hf : Stb f (fun x => x.2)) : ∀ n, Stb (rdMany f n) (fun x => x.2) := by
 intro n
 induction n with
 | zero => exact Stb.const (.ok ([], 0)) (fun b hb => by cases hb; rfl)
 | succ n ih =>
  have e : rdMany f (n + 1) = (fun l => bindE (f l) (fun b => bindE (rdMany f n (l.drop b.2)) (fun c => .ok (b.1 :: c.1, b.2 + c.2)))) := by
   funext l
   rw [rdMany]
   cases f l with
   | error c => rfl
   | ok x => obtain ⟨t, u⟩ := x; simp only [bindE]; cases rdMany f n (l.drop u) <;> rfl
  rw [e]
  exact Stb.seq (u := fun b : T × Nat => b.2) (v := fun c : List T × Nat => c.2) (x := fun y : List T × Nat => y.2) hf (g := fun _ => rdMany f n) (fun _ => ih) (fun b c => (b.1 :: c.1, b.2 + c.2)) (fun _ _ => rfl)
theorem rdManyT_cut (f : List Int → Except Int (T × Nat)) : ∀ (l : List T), (∀ t ∈ l, ∀ r, f (packT t ++ r) = .ok (t, (packT t).length)) → (∀ t ∈ l, ∀ k, k < (packT t).length → f ((packT t).take k) = .error 1) → ∀ k, k < (packTs l).length → rdMany f l.length ((packTs l).take k) = .error 1 := by
 intro l
 induction l with
 | nil => intro _ _ k h; simp [packTs] at h
 | cons t l ih =>
  intro h1 h2 k hk
  rw [packTs] at hk
  rw [List.length_cons, packTs, rdMany]
  by_cases hlt : k < (packT t).length
  ·rw [List.take_append_of_le_length (Nat.le_of_lt hlt), h2 t (by simp) k hlt]
  ·rw [List.length_append] at hk
   rw [List.take_append, List.take_of_length_le (by omega), h1 t (by simp)]
   simp only
   rw [List.drop_left, ih (fun u hu => h1 u (by simp [hu])) (fun u hu => h2 u (by simp [hu])) _ (by omega)]
theorem rdT_cutH {d : Nat} {mj n w : Int} {H B : List Int} {k : Nat} (hH : ∀ X, rdH (H ++ X) = .ok ((mj, n, w), H.length)) (hk : k < (H ++ B).length) (hB : ∀ j, j < B.length → rdBody (rdT d) mj n w (B.take j) = .error 1) : rdT (d + 1) ((H ++ B).take k) = .error 1 := by
 by_cases hlt : k < H.length
 ·rw [rdT, rdH_stb.cut (hH B) hlt]
 ·rw [List.length_append] at hk
  rw [List.take_append, List.take_of_length_le (by omega), rdT_step d (hH _), List.drop_left, hB _ (by omega)]
theorem rdH_all {mj n : Int} (h0 : 0 ≤ mj ∧ mj ≤ 7) (h1 : 0 ≤ n ∧ n ≤ 1000000000000000) : ∃ w, w ≠ -1 ∧ ∀ r, rdH (hdL mj n ++ r) = .ok ((mj, n, w), (hdL mj n).length) := by
 unfold hdL
 rw [headForD_ok h0 h1]
 refine ⟨if 23 < n then widthD n else 0, ?_, fun r => rdH_ok (headFor_ok h0 h1) r⟩
 have := widthD_in n h1.1
 split <;> omega
theorem rdT_cut : ∀ t : T, AllT tgQ t → ∀ d, T.depth t ≤ d → ∀ k, k < (packT t).length → rdT d ((packT t).take k) = .error 1 := by
 apply T.ind
 intro k n x s l ih ho d hd j hj
 have hboth := rdT_both (.mk k n x s l) ho
 rw [AllT_iff] at ho
 obtain ⟨⟨hq, h6, hss, hll⟩, hall⟩ := ho
 simp only [T.k, T.n, T.x, T.s, T.l] at hq h6 hss hll hall
 have hdep : T.depth (.mk k n x s l) = T.depthL l + 1 := by simp [T.depth]
 rw [hdep] at hd
 obtain ⟨d, rfl⟩ : ∃ d', d = d' + 1 := ⟨d - 1, by omega⟩
 have hdl : ∀ t ∈ l, T.depth t ≤ d := fun t ht => by obtain ⟨i, hi, rfl⟩ := mem_get ht; have := T.depth_get l i hi; omega
 have hok : ∀ t ∈ l, ∀ r, rdT d (packT t ++ r) = .ok (t, (packT t).length) := fun t ht => (rdT_both t (hall t ht) d).1 (hdl t ht)
 have hcut : ∀ t ∈ l, ∀ k, k < (packT t).length → rdT d ((packT t).take k) = .error 1 := fun t ht k hk => ih t ht (hall t ht) d (hdl t ht) k hk
 have one : ∀ {mj m w : Int}, headOk mj m w → packT (.mk k n x s l) = headL mj m w → rdT (d + 1) ((packT (.mk k n x s l)).take j) = .error 1 := by
  intro mj m w h1 h2
  rw [h2] at hj ⊢
  have := rdT_cutH (d := d) (H := headL mj m w) (B := []) (k := j) (fun X => rdH_ok h1 X) (by rwa [List.append_nil]) (fun j h => by simp at h)
  rwa [List.append_nil] at this
 have hdr : ∀ {mj m : Int}, 0 ≤ mj ∧ mj ≤ 7 → 0 ≤ m ∧ m ≤ 1000000000000000 → packT (.mk k n x s l) = hdL mj m → rdT (d + 1) ((packT (.mk k n x s l)).take j) = .error 1 := by
  intro mj m h0 h1 h2
  rw [h2] at hj ⊢
  obtain ⟨w, _, hw⟩ := rdH_all h0 h1
  have := rdT_cutH (d := d) (H := hdL mj m) (B := []) (k := j) hw (by rwa [List.append_nil]) (fun j h => by simp at h)
  rwa [List.append_nil] at this
 rcases own_kinds hq with rfl | rfl | rfl | rfl | rfl | rfl | rfl | rfl | rfl | rfl | rfl
 ·exact one (mj := 7) (m := 22) (w := 0) (by decide) (by rw [packT, if_pos rfl])
 ·obtain ⟨h1, h2, h3, h4⟩ := (own2 _ _ _ _).1 hq
  rcases h4 with rfl | rfl
  ·exact one (mj := 7) (m := 20) (w := 0) (by decide) (by rw [packT, if_neg (by decide), if_pos rfl, if_neg (by decide)])
  ·exact one (mj := 7) (m := 21) (w := 0) (by decide) (by rw [packT, if_neg (by decide), if_pos rfl, if_pos rfl])
 ·obtain ⟨h1, h2, h3, h4⟩ := (own3 _ _ _ _).1 hq
  by_cases hn : n < 0
  ·exact hdr (mj := 1) (m := -1 - n) (by decide) (by omega) (by rw [packT, if_neg (by decide), if_neg (by decide), if_pos rfl, if_pos h4, if_pos hn])
  ·exact hdr (mj := 0) (m := n) (by decide) (by omega) (by rw [packT, if_neg (by decide), if_neg (by decide), if_pos rfl, if_pos h4, if_neg hn])
 ·obtain ⟨h1, h3, h4⟩ := (own4 _ _ _ _).1 hq
  have hb := flt_bits h4
  have hr := fltBitsD_in n x
  have hr0 : fltBitsD n x ≠ -1 := by
   intro h
   rw [h] at hb
   have h2 := congrArg Prod.snd hb
   exact absurd (show (bitsFltD (-1)).2 = true from h2) (by decide)
  exact one (mj := 7) (m := fltBitsD n x) (w := 4) ⟨by decide, by omega, Or.inr (Or.inl ⟨by decide, (widthD_fit _ 4 (by omega) (by decide)).1 ⟨by omega, by omega⟩⟩)⟩ (by rw [packT, if_neg (by decide), if_neg (by decide), if_neg (by decide), if_pos rfl])
 ·obtain ⟨h1, h2, h3, h4⟩ := (own5 _ _ _ _).1 hq
  have e : packT (.mk 5 n x s l) = headL 7 (32 + n) 1 := by rw [packT, if_neg (by decide), if_neg (by decide), if_neg (by decide), if_neg (by decide), if_pos rfl, if_pos h4]
  obtain rfl | rfl | rfl : n = 0 ∨ n = 1 ∨ n = 2 := by omega
  ·exact one (by decide) e
  ·exact one (by decide) e
  ·exact one (by decide) e
 ·exact absurd rfl h6
 ·have e : packT (.mk 7 n x s l) = hdL 3 s.size ++ byteL s := by rw [packT, if_neg (by decide), if_neg (by decide), if_neg (by decide), if_neg (by decide), if_neg (by decide), if_pos rfl]
  rw [e] at hj ⊢
  obtain ⟨w, hw1, hw⟩ := rdH_all (mj := 3) (n := (s.size : Int)) (by decide) (by omega)
  refine rdT_cutH hw hj (fun i hi => ?_)
  rw [byteL_len] at hi
  unfold rdBody rdStr
  rw [if_neg (by decide), if_neg (by decide), if_pos (Or.inr rfl), if_neg hw1, if_pos (by rw [List.length_take, byteL_len]; omega)]
 ·have e : packT (.mk 8 n x s l) = hdL 2 s.size ++ byteL s := by rw [packT, if_neg (by decide), if_neg (by decide), if_neg (by decide), if_neg (by decide), if_neg (by decide), if_neg (by decide), if_pos rfl]
  rw [e] at hj ⊢
  obtain ⟨w, hw1, hw⟩ := rdH_all (mj := 2) (n := (s.size : Int)) (by decide) (by omega)
  refine rdT_cutH hw hj (fun i hi => ?_)
  rw [byteL_len] at hi
  unfold rdBody rdStr
  rw [if_neg (by decide), if_neg (by decide), if_pos (Or.inl rfl), if_neg hw1, if_pos (by rw [List.length_take, byteL_len]; omega)]
 ·have e : packT (.mk 9 n x s l) = hdL 4 l.length ++ packTs l := by rw [packT, if_neg (by decide), if_neg (by decide), if_neg (by decide), if_neg (by decide), if_neg (by decide), if_neg (by decide), if_neg (by decide), if_pos rfl]
  rw [e] at hj ⊢
  obtain ⟨w, hw1, hw⟩ := rdH_all (mj := 4) (n := (l.length : Int)) (by decide) (by omega)
  refine rdT_cutH hw hj (fun i hi => ?_)
  unfold rdBody
  rw [if_neg (by decide), if_neg (by decide), if_neg (by decide), if_pos (Or.inl rfl), if_neg hw1, if_neg (by decide), Int.toNat_natCast, rdManyT_cut _ l hok hcut i hi]
 ·obtain ⟨h1, h2, h3, h4⟩ := (own10 _ _ _ _).1 hq
  have e2 : 2 * (l.length / 2) = l.length := by omega
  have e : packT (.mk 10 n x s l) = hdL 5 ((l.length / 2 : Nat) : Int) ++ packTs l := by rw [packT, if_neg (by decide), if_neg (by decide), if_neg (by decide), if_neg (by decide), if_neg (by decide), if_neg (by decide), if_neg (by decide), if_neg (by decide), if_pos rfl]
  rw [e] at hj ⊢
  obtain ⟨w, hw1, hw⟩ := rdH_all (mj := 5) (n := ((l.length / 2 : Nat) : Int)) (by decide) (by omega)
  refine rdT_cutH hw hj (fun i hi => ?_)
  unfold rdBody
  rw [if_neg (by decide), if_neg (by decide), if_neg (by decide), if_pos (Or.inr rfl), if_neg hw1, if_pos rfl, Int.toNat_natCast, e2, rdManyT_cut _ l hok hcut i hi]
 ·obtain ⟨h1, h2, h3, h4⟩ := (own11 _ _ _ _).1 hq
  obtain ⟨t, rfl⟩ : ∃ t, l = [t] := List.length_eq_one_iff.1 h4
  have e : packT (.mk 11 n x s [t]) = hdL 6 n ++ packT t := by rw [packT, if_neg (by decide), if_neg (by decide), if_neg (by decide), if_neg (by decide), if_neg (by decide), if_neg (by decide), if_neg (by decide), if_neg (by decide), if_neg (by decide), if_pos rfl, if_pos h3, packTs, packTs, List.append_nil]
  rw [e] at hj ⊢
  obtain ⟨w, hw1, hw⟩ := rdH_all (mj := 6) (n := n) (by decide) h3
  refine rdT_cutH hw hj (fun i hi => ?_)
  unfold rdBody
  rw [if_neg (by decide), if_neg (by decide), if_neg (by decide), if_neg (by decide), if_pos rfl, hcut t (by simp) i hi]
theorem formD_w (c : Int) : ((formD c).1 = 5 → (formD c).2 = 2) ∧ ((formD c).1 = 4 → (formD c).2 = 4) := by
 by_cases h : 196 ≤ c ∧ c ≤ 223
 ·have h2 : c = 196 ∨ c = 197 ∨ c = 198 ∨ c = 199 ∨ c = 200 ∨ c = 201 ∨ c = 202 ∨ c = 203 ∨ c = 204 ∨ c = 205 ∨ c = 206 ∨ c = 207 ∨ c = 208 ∨ c = 209 ∨ c = 210 ∨ c = 211 ∨ c = 212 ∨ c = 213 ∨ c = 214 ∨ c = 215 ∨ c = 216 ∨ c = 217 ∨ c = 218 ∨ c = 219 ∨ c = 220 ∨ c = 221 ∨ c = 222 ∨ c = 223 := by omega
  rcases h2 with rfl | rfl | rfl | rfl | rfl | rfl | rfl | rfl | rfl | rfl | rfl | rfl | rfl | rfl | rfl | rfl | rfl | rfl | rfl | rfl | rfl | rfl | rfl | rfl | rfl | rfl | rfl | rfl <;> decide
 ·have e : formD c = (0, 0) := by
   unfold formD
   repeat rw [if_neg (by omega)]
  rw [e]; decide
theorem markR_stb : Stb markR (fun x => x.2.2) := by
 constructor
 ·intro l r h
  cases l with
  | nil => exact absurd rfl h
  | cons c l =>
   rw [List.cons_append]
   rw [markR] at h
   rw [markR, markR]
   cases hs : shortD c with
   | some x => rfl
   | none =>
    rw [hs] at h
    dsimp only at h ⊢
    by_cases h3 : (formD c).1 = 0 ∨ l.length < (formD c).2
    ·rw [if_pos h3] at h; exact absurd rfl h
    have h3' : ¬ ((formD c).1 = 0 ∨ (l ++ r).length < (formD c).2) := by rw [List.length_append]; omega
    rw [if_neg h3, if_neg h3', List.take_append_of_le_length (by omega)]
 ·intro l x h
  cases l with
  | nil => cases h
  | cons c l =>
   rw [markR] at h
   rw [List.length_cons]
   cases hs : shortD c with
   | some y => rw [hs] at h; cases h; show 1 ≤ _; omega
   | none =>
    rw [hs] at h
    dsimp only at h
    have hw := formD_w c
    by_cases h3 : (formD c).1 = 0 ∨ l.length < (formD c).2
    ·rw [if_pos h3] at h; cases h
    rw [if_neg h3] at h
    generalize (formD c).1 = k at *
    generalize (formD c).2 = w at *
    unfold argD at h
    by_cases k5 : k = 5
    ·rw [if_pos k5] at h
     have := hw.1 k5
     split at h
     ·cases h; show 3 ≤ _; omega
     ·cases h
    rw [if_neg k5] at h
    by_cases k4 : k = 4
    ·rw [if_pos k4] at h
     have := hw.2 k4
     split at h
     ·cases h; show 5 ≤ _; omega
     ·cases h
    rw [if_neg k4] at h
    have hl : w + 1 ≤ l.length + 1 := by omega
    by_cases k3 : k = 3
    ·rw [if_pos k3] at h
     split at h
     ·split at h
      ·cases h; exact hl
      ·cases h
     ·split at h
      ·cases h; exact hl
      ·cases h
    rw [if_neg k3] at h
    split at h
    ·cases h; exact hl
    ·cases h
def mkB (k : Int) (b : List T × Nat) : T × Nat := (.mk k 0 0 ⟨#[]⟩ b.1, b.2)
def rdQ (d : Nat) (k n : Int) (l : List Int) : Except Int (T × Nat) :=
  if k = 4 then .ok (.mk 4 (bitsFltD n).1.1 (bitsFltD n).1.2 ⟨#[]⟩ [], 0)
  else if k = 7 ∨ k = 8 then
    (if (l.length : Int) < n then .error 1
     else if k = 7 ∧ Lib.validD (strOfNums (l.take n.toNat)).data.toList = false then .error 1
     else .ok (.mk k 0 0 (strOfNums (l.take n.toNat)) [], n.toNat))
  else if k = 9 ∨ k = 10 then
    bindE (rdMany (rdP d) (if k = 10 then 2 * n.toNat else n.toNat) l) (fun b => .ok (mkB k b))
  else .ok (.mk k n 0 ⟨#[]⟩ [], 0)
theorem rdP_eq (d : Nat) : rdP (d + 1) = (fun l => bindE (markR l) (fun b => bindE (rdQ d b.1 b.2.1 (l.drop b.2.2)) (fun c => .ok (c.1, b.2.2 + c.2)))) := by
 funext l
 rw [rdP]
 cases markR l with
 | error c => rfl
 | ok x =>
  obtain ⟨k, n, u⟩ := x
  simp only [bindE]
  unfold rdQ
  by_cases k4 : k = 4
  ·rw [if_pos k4, if_pos k4]; rfl
  rw [if_neg k4, if_neg k4]
  by_cases k78 : k = 7 ∨ k = 8
  ·rw [if_pos k78, if_pos k78, List.length_drop]
   by_cases h1 : ((l.length - u : Nat) : Int) < n
   ·rw [if_pos h1, if_pos h1]
   rw [if_neg h1, if_neg h1]
   by_cases h2 : k = 7 ∧ Lib.validD (strOfNums ((l.drop u).take n.toNat)).data.toList = false
   ·rw [if_pos h2, if_pos h2]
   rw [if_neg h2, if_neg h2]
  rw [if_neg k78, if_neg k78]
  by_cases k910 : k = 9 ∨ k = 10
  ·rw [if_pos k910, if_pos k910]
   simp only [bindE]
   cases rdMany (rdP d) (if k = 10 then 2 * n.toNat else n.toNat) (l.drop u) <;> rfl
  rw [if_neg k910, if_neg k910]; rfl
theorem rdQ_stb {d : Nat} (hg : Stb (rdP d) (fun x => x.2)) (k n : Int) : Stb (rdQ d k n) (fun x => x.2) := by
 by_cases k4 : k = 4
 ·have e : rdQ d k n = fun _ => .ok (.mk 4 (bitsFltD n).1.1 (bitsFltD n).1.2 ⟨#[]⟩ [], 0) := by funext l; unfold rdQ; rw [if_pos k4]
  rw [e]; exact Stb.const _ (fun b hb => by cases hb; rfl)
 by_cases k78 : k = 7 ∨ k = 8
 ·constructor
  ·intro l r h
   unfold rdQ at h ⊢
   rw [if_neg k4, if_pos k78] at h
   rw [if_neg k4, if_neg k4, if_pos k78, if_pos k78]
   by_cases h1 : (l.length : Int) < n
   ·rw [if_pos h1] at h; exact absurd rfl h
   have h1' : ¬ ((l ++ r).length : Int) < n := by rw [List.length_append]; omega
   rw [if_neg h1, if_neg h1', List.take_append_of_le_length (by omega)]
  ·intro l x h
   unfold rdQ at h
   rw [if_neg k4, if_pos k78] at h
   split at h
   ·cases h
   ·split at h
    ·cases h
    ·cases h; show n.toNat ≤ _; omega
 by_cases k910 : k = 9 ∨ k = 10
 ·have e : rdQ d k n = fun l => bindE (rdMany (rdP d) (if k = 10 then 2 * n.toNat else n.toNat) l) (fun b => .ok (mkB k b)) := by funext l; unfold rdQ; rw [if_neg k4, if_neg k78, if_pos k910]
  rw [e]
  exact Stb.map (u := fun b : List T × Nat => b.2) (v := fun c : T × Nat => c.2) (rdMany_stb hg (if k = 10 then 2 * n.toNat else n.toNat)) (mkB k) (fun _ => rfl)
 have e : rdQ d k n = fun _ => .ok (.mk k n 0 ⟨#[]⟩ [], 0) := by funext l; unfold rdQ; rw [if_neg k4, if_neg k78, if_neg k910]
 rw [e]; exact Stb.const _ (fun b hb => by cases hb; rfl)
theorem rdP_stb : ∀ d, Stb (rdP d) (fun x => x.2) := by
 intro d
 induction d with
 | zero => exact Stb.const (.error 2) (fun b hb => by cases hb)
 | succ d ih =>
  rw [rdP_eq]
  exact Stb.seq (u := fun b : Int × Int × Nat => b.2.2) (v := fun c : T × Nat => c.2) (x := fun y : T × Nat => y.2) markR_stb (g := fun b => rdQ d b.1 b.2.1) (fun b => rdQ_stb ih b.1 b.2.1) (fun b c => (c.1, b.2.2 + c.2)) (fun _ _ => rfl)
theorem laws_at (a : Option Addr) (cap B : Nat) (l : List Int) (w : World) (hr : Rd EByte 1 w B a cap l) (hB : B ≤ w.heap.size) (hl : l.length ≤ 1048576) :
  Calls Tryz.prog 33 #[.slice a l.length cap, .int .i64 2] w fun e w' => ∃ n : Int, e = .returned (.int .i64 n) ∧ 0 ≤ n ∧ n ≤ 255 ∧ Below w.heap.size w w' := by
 obtain ⟨hl1, hl2⟩ := hr.len
 by_cases h : 2 < l.length
 ·have hz : (2 : Int) < (l.length : Int) := by omega
  obtain ⟨b, o, rfl, hbl, d0, hx0, hx1⟩ := hr.byte 2 h
  have hlb : b < w.heap.size := by omega
  generalize l[2] = x at *
  have hxw : IntKind.i64.wrap x = x := by unfold IntKind.wrap; simp [IntKind.signed, IntKind.bits]; omega
  have hxw2 := Go.IntWalk.wrap64_in x ⟨by omega, by omega⟩
  go_enter Tryz.func33, Tryz.ntmps33
  go_wp2_with fail
  try go_quiet (fail)
  go_wp2_with fail
  go_ret
  exact ⟨x, by first | rfl | simp [hxw] | simp [hxw2], by omega, by omega, by first | exact Below.refl _ _ | exact (Below.refl _ _).drew | exact below_drewN _ _ _⟩
 ·have hz : ¬ (2 : Int) < (l.length : Int) := by omega
  obtain ⟨n, hn⟩ : ∃ n : Nat, l.length = n := ⟨_, rfl⟩
  rw [hn] at hz hl ⊢
  clear hn h
  have h1 := Go.IntWalk.wrap64_in ((n : Int) * 7) ⟨by omega, by omega⟩
  have h2 := Go.IntWalk.wrap64_in (62 + (n : Int) * 7) ⟨by omega, by omega⟩
  go_enter Tryz.func33, Tryz.ntmps33
  go_wp2_with fail
  go_ret
  exact ⟨_, rfl, by omega, by omega, Below.refl _ _⟩
theorem pk_facts {t : T} (h : AllT pkQ t) : allB ownB t = true ∧ allB packB t = true ∧ writeKL t = packK t := by
 have h1 := AllT.allB (p := ownB) (fun t h => decide_eq_true h.1) t h
 have h2 := AllT.allB (p := packB) (fun t h => pkQ_packB h) t h
 exact ⟨h1, h2, by unfold writeKL; rw [h1, h2]; rfl⟩
theorem packK_pos {t : T} (ho : allB ownB t = true) (hp : allB packB t = true) : 0 < (packK t).length := by
 have h := (rdP_both t ho hp (T.depth t)).1 (Nat.le_refl _) []
 rw [List.append_nil] at h
 rcases Nat.eq_zero_or_pos (packK t).length with h0 | h0
 ·have hn : packK t = [] := List.length_eq_zero_iff.1 h0
  rw [hn] at h
  have hd : ∃ d, T.depth t = d + 1 := ⟨T.depthL t.l, by cases t; simp [T.depth, T.l]⟩
  obtain ⟨d, hd⟩ := hd
  rw [hd] at h
  cases h
 ·exact h0
theorem tq_facts {t : T} (h : AllT tqQ t) : allB ownB t = true ∧ allB tightU t = true ∧ writeTL t = packT t := by
 have h1 := AllT.allB (p := ownB) (fun t h => decide_eq_true h.1) t h
 have h2 := AllT.allB (p := tightU) (fun t h => h.2.2.2.2) t h
 exact ⟨h1, h2, by unfold writeTL; rw [h1, h2]; rfl⟩
theorem tightU_k {t : T} (h : tightU t = true) : t.k ≠ 6 := by
 unfold tightU at h
 rw [Bool.and_eq_true] at h
 exact of_decide_eq_true h.2
theorem tgs_of {t : T} (ho : allB ownB t = true) (hp : allB tightU t = true) (hz : T.sz t ≤ 1048576) : AllT tgQ t := by
 revert ho hp hz
 revert t
 apply T.ind
 intro k n x s l ih ho hp hz
 rw [allB_eq, Bool.and_eq_true, List.all_eq_true] at ho hp
 rw [AllT_iff]
 have hz2 := sz_of k n x s l
 have hl := T.length_le_szL l
 refine ⟨⟨of_decide_eq_true ho.1, tightU_k hp.1, by show (s.size : Int) ≤ _; omega, by show (l.length : Int) ≤ _; omega⟩, fun u hu => ih u hu (ho.2 u hu) (hp.2 u hu) ?_⟩
 obtain ⟨i, hi, rfl⟩ := mem_get (show u ∈ l from hu)
 have := T.sz_get l i hi
 omega
theorem packT_pos {t : T} (ho : allB ownB t = true) (hp : allB tightU t = true) (hz : T.sz t ≤ 1048576) : 0 < (packT t).length := by
 have h := (rdT_both t (tgs_of ho hp hz) (T.depth t)).1 (Nat.le_refl _) []
 rw [List.append_nil] at h
 rcases Nat.eq_zero_or_pos (packT t).length with h0 | h0
 ·have hn : packT t = [] := List.length_eq_zero_iff.1 h0
  rw [hn] at h
  have hd : ∃ d, T.depth t = d + 1 := ⟨T.depthL t.l, by cases t; simp [T.depth, T.l]⟩
  obtain ⟨d, hd⟩ := hd
  rw [hd] at h
  cases h
 ·exact h0
end Go.Proofs.YtggdenkmohnijaaGreatDoor
