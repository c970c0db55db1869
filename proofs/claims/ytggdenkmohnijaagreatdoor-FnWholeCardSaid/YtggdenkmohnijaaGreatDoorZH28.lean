/- Texts of this proof, merged: TigP, MrkI. No condition beyond what each theorem states. -/
import Derived.Test.YtggdenkmohnijaaGreatDoorZH26
import Derived.Test.YtggdenkmohnijaaGreatDoorZH27
set_option linter.unusedSimpArgs false
set_option linter.unnecessarySimpa false
namespace Go.Proofs.YtggdenkmohnijaaGreatDoor
open Go.ChangeShapes Go.WideShapes Go.ChangeAt Go.RowKit Go.Joins
set_option linter.unusedVariables false
set_option maxRecDepth 100000
theorem lexB_total : ∀ a b : List Int, a ≠ b → lexB a b = false → lexB b a = true := by
 intro a
 induction a with
 | nil =>
  intro b hne h
  cases b with
  | nil => exact absurd rfl hne
  | cons y b => rw [lexB] at h; cases h
 | cons x a ih =>
  intro b hne h
  cases b with
  | nil => rw [lexB]
  | cons y b =>
   rw [lexB] at h ⊢
   by_cases hxy : x = y
   ·subst hxy
    rw [if_pos rfl] at h ⊢
    exact ih b (fun e => hne (by rw [e])) h
   ·rw [if_neg hxy] at h
    rw [if_neg (fun e => hxy e.symm)]
    have := of_decide_eq_false h
    exact decide_eq_true (by omega)
theorem packT_inj {a b : T} (ha : AllT tgQ a) (hb : AllT tgQ b) (h : packT a = packT b) : a = b := by
 have h1 := (rdT_both a ha (max (T.depth a) (T.depth b))).1 (Nat.le_max_left _ _) []
 have h2 := (rdT_both b hb (max (T.depth a) (T.depth b))).1 (Nat.le_max_right _ _) []
 rw [h] at h1
 rw [h1] at h2
 injection h2 with h2
 exact congrArg Prod.fst h2
def posP (l : List T) (x : T) : Nat → Nat
 | 0 => 0
 | j + 1 => if lexB (packT x) (packT (l.getD (2 * j) zT)) then posP l x j else j + 1
theorem posP_le (l : List T) (x : T) : ∀ j, posP l x j ≤ j := by
 intro j
 induction j with
 | zero => exact Nat.le_refl _
 | succ j ih => rw [posP]; split <;> omega
theorem posP_hi (l : List T) (x : T) : ∀ j i, posP l x j ≤ i → i < j → lexB (packT x) (packT (l.getD (2 * i) zT)) = true := by
 intro j
 induction j with
 | zero => intro i _ h; omega
 | succ j ih =>
  intro i h1 h2
  rw [posP] at h1
  split at h1
  ·rename_i hl
   rcases Nat.lt_or_ge i j with h | h
   ·exact ih i h1 h
   ·obtain rfl : i = j := by omega
    exact hl
  ·omega
theorem posP_lo (l : List T) (x : T) : ∀ j, 0 < posP l x j → lexB (packT x) (packT (l.getD (2 * (posP l x j - 1)) zT)) = false := by
 intro j
 induction j with
 | zero => intro h; simp [posP] at h
 | succ j ih =>
  intro h
  rw [posP] at h ⊢
  split at h
  ·rename_i hl
   rw [if_pos hl]; exact ih h
  ·rename_i hl
   rw [if_neg hl, Nat.add_sub_cancel]
   simpa using hl
def insP (l : List T) (q : Nat) (x y : T) : List T := l.take (2 * q) ++ [x, y] ++ l.drop (2 * q)
def srtP (L : List T) : Nat → List T
 | 0 => []
 | j + 1 => insP (srtP L j) (posP (srtP L j) (L.getD (2 * j) zT) j) (L.getD (2 * j) zT) (L.getD (2 * j + 1) zT)
theorem insP_len (l : List T) (q : Nat) (x y : T) : (insP l q x y).length = l.length + 2 := by
 unfold insP
 have := congrArg List.length (List.take_append_drop (2 * q) l)
 simp only [List.length_append, List.length_cons, List.length_nil] at this ⊢
 omega
theorem srtP_len (L : List T) : ∀ j, (srtP L j).length = 2 * j := by
 intro j
 induction j with
 | zero => rfl
 | succ j ih => rw [srtP, insP_len, ih]; omega
theorem insP_name (l : List T) (q i : Nat) (x y : T) (hq : 2 * q ≤ l.length) :
  (insP l q x y).getD (2 * i) zT = if i < q then l.getD (2 * i) zT else if i = q then x else l.getD (2 * (i - 1)) zT := by
 unfold insP
 have h1 : (l.take (2 * q)).length = 2 * q := by rw [List.length_take]; omega
 rw [List.append_assoc, List.getD_eq_getElem?_getD]
 by_cases hi : i < q
 ·rw [if_pos hi, List.getElem?_append_left (by omega), List.getElem?_take, if_pos (by omega), List.getD_eq_getElem?_getD]
 ·rw [if_neg hi, List.getElem?_append_right (by omega), h1]
  by_cases he : i = q
  ·rw [if_pos he, show 2 * i - 2 * q = 0 from by omega]; rfl
  ·rw [if_neg he, List.getElem?_append_right (by simp; omega)]
   rw [List.getElem?_drop, List.getD_eq_getElem?_getD]
   simp only [List.length_cons, List.length_nil]
   rw [show 2 * q + (2 * i - 2 * q - (0 + 1 + 1)) = 2 * (i - 1) from by omega]
theorem insP_mem {l : List T} {q : Nat} {x y u : T} (h : u ∈ insP l q x y) : u ∈ l ∨ u = x ∨ u = y := by
 unfold insP at h
 simp only [List.mem_append, List.mem_cons, List.not_mem_nil, or_false] at h
 rcases h with (h | h) | h
 ·exact Or.inl (List.mem_of_mem_take h)
 ·exact Or.inr h
 ·exact Or.inl (List.mem_of_mem_drop h)
theorem getD_mem {L : List T} {i : Nat} (h : i < L.length) : L.getD i zT ∈ L := by
 rw [List.getD_eq_getElem?_getD, List.getElem?_eq_getElem h]; exact List.getElem_mem h
theorem srtP_mem (L : List T) : ∀ j, 2 * j ≤ L.length → ∀ u ∈ srtP L j, u ∈ L := by
 intro j
 induction j with
 | zero => intro _ u hu; cases hu
 | succ j ih =>
  intro hj u hu
  rw [srtP] at hu
  rcases insP_mem hu with h | h | h
  ·exact ih (by omega) u h
  ·rw [h]; exact getD_mem (by omega)
  ·rw [h]; exact getD_mem (by omega)
theorem srtP_name (L : List T) : ∀ j i, i < j → ∃ a, a < j ∧ (srtP L j).getD (2 * i) zT = L.getD (2 * a) zT := by
 intro j
 induction j with
 | zero => intro i h; omega
 | succ j ih =>
  intro i hi
  rw [srtP, insP_name _ _ _ _ _ (by have := posP_le (srtP L j) (L.getD (2 * j) zT) j; rw [srtP_len]; omega)]
  have hq := posP_le (srtP L j) (L.getD (2 * j) zT) j
  by_cases h1 : i < posP (srtP L j) (L.getD (2 * j) zT) j
  ·rw [if_pos h1]
   obtain ⟨a, ha, e⟩ := ih i (by omega)
   exact ⟨a, by omega, e⟩
  ·rw [if_neg h1]
   by_cases h2 : i = posP (srtP L j) (L.getD (2 * j) zT) j
   ·rw [if_pos h2]; exact ⟨j, by omega, rfl⟩
   ·rw [if_neg h2]
    obtain ⟨a, ha, e⟩ := ih (i - 1) (by omega)
    exact ⟨a, by omega, e⟩
def Apart (L : List T) (p : Nat) : Prop := ∀ a b, a < p → b < p → a ≠ b → packT (L.getD (2 * a) zT) ≠ packT (L.getD (2 * b) zT)
theorem srtP_asc (L : List T) (p : Nat) (hL : Apart L p) : ∀ j, j ≤ p → ∀ i, i + 1 < j → lexB (packT ((srtP L j).getD (2 * i) zT)) (packT ((srtP L j).getD (2 * (i + 1)) zT)) = true := by
 intro j
 induction j with
 | zero => intro _ i h; omega
 | succ j ih =>
  intro hj i hi
  have hq := posP_le (srtP L j) (L.getD (2 * j) zT) j
  have hlen : 2 * posP (srtP L j) (L.getD (2 * j) zT) j ≤ (srtP L j).length := by rw [srtP_len]; omega
  have hhi := posP_hi (srtP L j) (L.getD (2 * j) zT) j
  have hlo := posP_lo (srtP L j) (L.getD (2 * j) zT) j
  rw [srtP, insP_name _ _ i _ _ hlen, insP_name _ _ (i + 1) _ _ hlen]
  generalize posP (srtP L j) (L.getD (2 * j) zT) j = q at *
  by_cases h1 : i + 1 < q
  ·rw [if_pos (by omega), if_pos h1]; exact ih (by omega) i (by omega)
  by_cases h2 : i + 1 = q
  ·rw [if_pos (by omega), if_neg h1, if_pos h2]
   have := hlo (by omega)
   rw [show q - 1 = i from by omega] at this
   refine lexB_total _ _ ?_ this
   obtain ⟨a, ha, e⟩ := srtP_name L j i (by omega)
   rw [e]
   exact hL j a (by omega) (by omega) (by omega)
  by_cases h3 : i = q
  ·rw [if_neg (by omega), if_pos h3, if_neg h1, if_neg h2, show i + 1 - 1 = i from by omega]
   exact hhi i (by omega) (by omega)
  ·rw [if_neg (by omega), if_neg h3, if_neg h1, if_neg h2, show i + 1 - 1 = i - 1 + 1 from by omega]
   exact ih (by omega) (i - 1) (by omega)
theorem srtP_ascU (L : List T) (p : Nat) (hL : Apart L p) (hp : 2 * p ≤ L.length) : ∀ j, j ≤ p → ascU (evN (srtP L p) p) j = true := by
 have h := srtP_asc L p hL p (Nat.le_refl _)
 have hl := srtP_len L p
 intro j
 induction j with
 | zero => intro _; rfl
 | succ j ih =>
  intro hj
  cases j with
  | zero => rfl
  | succ j =>
   have e := evAsc_succ (srtP L p) p j (by rw [hl]; omega) (by rw [hl]; omega)
   rw [e, ih (by omega), Bool.true_and]
   have := h j (by omega)
   rw [List.getD_eq_getElem?_getD, List.getD_eq_getElem?_getD, List.getElem?_eq_getElem (by rw [hl]; omega), List.getElem?_eq_getElem (by rw [hl]; omega)] at this
   exact this
mutual
def tg : T → T
 | .mk k n x s l => if k = 6 then .mk 7 0 0 (decTx n (-x).toNat) [] else .mk k n x s (if k = 10 then srtP (fixN [] (tgs l)) (l.length / 2) else tgs l)
def tgs : List T → List T
 | [] => []
 | t :: r => tg t :: tgs r
end
theorem tgs_map : ∀ l : List T, tgs l = l.map tg := by
 intro l
 induction l with
 | nil => rfl
 | cons t r ih => rw [tgs, ih]; rfl
def tqQ (t : T) : Prop := ownQ t.k t.n t.x t.s t.l.length ∧ t.s.size ≤ 200 ∧ t.l.length ≤ 6 ∧ t.k ≠ 6 ∧ tightU t = true
theorem tqQ_tgQ {t : T} (h : tqQ t) : tgQ t := ⟨h.1, h.2.2.2.1, by have := h.2.1; omega, by have := h.2.2.1; omega⟩
theorem tg_name {t : T} (h : namQ t) : tg t = t := by
 obtain ⟨h1, h2, h3⟩ := h
 obtain ⟨k, n, x, s, l⟩ := t
 obtain rfl : l = [] := h1
 have hk : k = 3 ∨ k = 7 := by
  rcases h3 with h | h
  ·exact Or.inl h.1
  ·exact Or.inr h.1
 rw [tg, if_neg (by omega), if_neg (by omega)]; rfl
theorem onceN_ne (ns : List T) : ∀ n, n ≤ ns.length → onceN ns n = true → ∀ a b (ha : a < ns.length) (hb : b < ns.length), a < b → b < n → ns[a] ≠ ns[b] := by
 intro n
 induction n with
 | zero => intro _ _ a b _ _ _ h; omega
 | succ n ih =>
  intro hn h a b ha hb hab hbn
  rw [onceN_succ ns n (by omega), Bool.and_eq_true, Bool.not_eq_true', List.any_eq_false] at h
  rcases Nat.lt_or_ge b n with hb2 | hb2
  ·exact ih (by omega) h.1 a b ha hb hab hb2
  ·obtain rfl : b = n := by omega
   have := h.2 ns[a] (by
    rw [List.mem_take_iff_getElem]
    exact ⟨a, by omega, rfl⟩)
   rwa [sameT_iff] at this
theorem leaf_tgQ {k n x : Int} {s : ByteArray} (h : ownQ k n x s 0) (hk : k ≠ 6) (hs : s.size ≤ 200) : AllT tgQ (.mk k n x s []) := by
 rw [AllT_iff]
 exact ⟨⟨h, hk, by show (s.size : Int) ≤ _; omega, by show ((0 : Nat) : Int) ≤ _; decide⟩, by simp [T.l]⟩
theorem nam_tgQ {t : T} (h : namQ t) : AllT tgQ t := by
 have h1 := nam_own h; have h2 := nam_size h
 obtain ⟨h3, _, h4⟩ := h
 obtain ⟨k, n, x, s, l⟩ := t
 obtain rfl : l = [] := h3
 exact leaf_tgQ h1 (by rcases h4 with h | h; have := h.1; simp only [T.k] at this; omega; have := h.1; simp only [T.k] at this; omega) (by have : s.size ≤ 3 := h2; omega)
theorem kName_tgQ {i : Nat} (h : i < 10) : AllT tgQ (kName i) := leaf_tgQ (kName_own i) (by decide) (kName_size i h)
theorem fix_apart {L : List T} (h : NmOk L) (hl : L.length ≤ 6) (p : Nat) (hp : 2 * p ≤ L.length) : Apart L p := by
 have hpp : p ≤ (L.length + 1) / 2 := by omega
 have hnm : ∀ a, a < p → AllT tgQ (L.getD (2 * a) zT) := by
  intro a ha
  rw [List.getD_eq_getElem?_getD, List.getElem?_eq_getElem (show 2 * a < L.length by omega), Option.getD_some]
  rcases h.2 (2 * a) (by omega) (by omega) with hn | hn
  ·exact nam_tgQ hn
  ·rw [hn]; exact kName_tgQ (by omega)
 have key : ∀ a b, a < b → b < p → packT (L.getD (2 * a) zT) ≠ packT (L.getD (2 * b) zT) := by
  intro a b hab hb e
  have e2 := packT_inj (hnm a (by omega)) (hnm b hb) e
  rw [List.getD_eq_getElem?_getD, List.getD_eq_getElem?_getD, List.getElem?_eq_getElem (show 2 * a < L.length by omega), List.getElem?_eq_getElem (show 2 * b < L.length by omega), Option.getD_some, Option.getD_some] at e2
  have hlen := evN_len L ((L.length + 1) / 2)
  have := onceN_ne _ _ (Nat.le_refl _) h.1 a b (by rw [hlen]; omega) (by rw [hlen]; omega) hab (by rw [hlen]; omega)
  rw [evN_get L _ a (by omega) (by omega), evN_get L _ b (by omega) (by omega)] at this
  exact this e2
 intro a b ha hb hne e
 rcases Nat.lt_or_ge a b with h1 | h1
 ·exact key a b h1 hb e
 ·exact key b a (by omega) ha e.symm
theorem tg_ok : ∀ t : T, AllT drQ t → AllT tqQ (tg t) ∧ T.depth (tg t) ≤ T.depth t := by
 apply T.ind
 intro k n x s l ih h
 rw [AllT_iff] at h
 obtain ⟨⟨hq, hs, hl, hnm⟩, hall⟩ := h
 simp only [T.k, T.n, T.x, T.s, T.l] at hq hs hl hnm hall
 rw [tg]
 by_cases k6 : k = 6
 ·rw [if_pos k6]
  refine ⟨(AllT_iff _ _).2 ⟨⟨(own7 _ _ _ _).2 ⟨rfl, rfl, rfl, (decTx_asc _ _).valid⟩, decTx_size _ _, by simp [T.l], by simp [T.k], ?_⟩, by simp [T.l]⟩, ?_⟩
  ·rw [tightU_not (by simp [T.k])]; rfl
  ·rw [depth_one]; simp [T.depth]
 rw [if_neg k6]
 have hD : ∀ u ∈ l, T.depth (tg u) ≤ T.depthL l := by
  intro u hu
  obtain ⟨i, hi, rfl⟩ := mem_get hu
  exact Nat.le_trans (ih _ hu (hall _ hu)).2 (T.depth_get l i hi)
 rw [tgs_map]
 by_cases k10 : k = 10
 ·subst k10
  rw [if_pos rfl]
  have hlen : (l.map tg).length = l.length := by simp
  have hev := ((own10 _ _ _ _).1 hq).2.2
  have hnames : ∀ i (h : i < (l.map tg).length), i % 2 = 0 → namQ (l.map tg)[i] := by
   intro i hi hp
   rw [List.getElem_map]
   have := hnm rfl i (by simpa using hi) hp
   rw [tg_name this]; exact this
  have hok := fixN_ok (l.map tg) (by omega) hnames _ (Nat.le_refl _)
  have hmm := fixN_mem (l.map tg) _ (Nat.le_refl _)
  rw [List.take_length] at hok hmm
  have hfl : (fixN [] (l.map tg)).length = l.length := by rw [fixN_len]; simp
  have hap := fix_apart hok (by omega) (l.length / 2) (by omega)
  have hsl : (srtP (fixN [] (l.map tg)) (l.length / 2)).length = l.length := by rw [srtP_len]; omega
  have hch : ∀ u ∈ srtP (fixN [] (l.map tg)) (l.length / 2), AllT tqQ u ∧ T.depth u ≤ T.depthL l := by
   intro u hu
   have hu2 := srtP_mem _ _ (by omega) u hu
   rcases hmm u hu2 with h | ⟨i, hi, rfl⟩
   ·obtain ⟨v, hv, rfl⟩ := List.mem_map.1 h
    exact ⟨(ih v hv (hall v hv)).1, hD v hv⟩
   ·refine ⟨(AllT_iff _ _).2 ⟨⟨kName_own i, kName_size i (by omega), by simp [kName, T.l], by simp [kName, T.k], by rw [tightU_not (by simp [kName, T.k])]; rfl⟩, by simp [kName, T.l]⟩, ?_⟩
    have h1 : T.depth (kName i) = 1 := depth_one _ _ _ _
    rw [h1]
    have hpos : 0 < l.length := by omega
    have := T.depth_get l 0 hpos
    have h2 : 1 ≤ T.depth l[0] := by rw [T.depth_eta0]; omega
    omega
  refine ⟨(AllT_iff _ _).2 ⟨⟨by simp only [T.k, T.n, T.x, T.s, T.l]; rw [hsl]; exact hq, by simp only [T.s]; omega, by simp only [T.l]; omega, by simp [T.k], ?_⟩, fun u hu => (hch u hu).1⟩, ?_⟩
  ·rw [tightU_map (by rfl)]
   simp only [T.l]
   rw [hsl, show (l.length + 1) / 2 = l.length / 2 from by omega]
   exact srtP_ascU _ _ hap (by omega) _ (Nat.le_refl _)
  ·simp only [T.depth]
   have := depthL_le (fun u hu => (hch u hu).2)
   omega
 ·rw [if_neg k10]
  refine ⟨(AllT_iff _ _).2 ⟨⟨by simp only [T.k, T.n, T.x, T.s, T.l]; rw [List.length_map]; exact hq, by simp only [T.s]; omega, by simp only [T.l]; rw [List.length_map]; exact hl, k6, by rw [tightU_not (t := .mk k n x s (l.map tg)) k10]; exact decide_eq_true k6⟩, fun u hu => ?_⟩, ?_⟩
  ·obtain ⟨v, hv, rfl⟩ := List.mem_map.1 hu
   exact (ih v hv (hall v hv)).1
  ·simp only [T.depth]
   have : T.depthL (l.map tg) ≤ T.depthL l := depthL_le (fun u hu => by
    obtain ⟨v, hv, rfl⟩ := List.mem_map.1 hu
    exact hD v hv)
   omega
theorem countL_two (x y : T) : T.countL [x, y] = T.count x + T.count y := by simp [T.countL]
theorem insP_count (l : List T) (q : Nat) (x y : T) : T.countL (insP l q x y) = T.countL l + T.count x + T.count y := by
 unfold insP
 have h := congrArg T.countL (List.take_append_drop (2 * q) l)
 rw [T.countL_append] at h
 rw [T.countL_append, T.countL_append, countL_two]; omega
theorem srtP_count (L : List T) : ∀ j, 2 * j ≤ L.length → T.countL (srtP L j) ≤ T.countL (L.take (2 * j)) := by
 intro j
 induction j with
 | zero => intro _; simp [srtP]
 | succ j ih =>
  intro hj
  have h1 := T.countL_take_succ L (2 * j) (by omega)
  have h2 := T.countL_take_succ L (2 * j + 1) (by omega)
  have := ih (by omega)
  rw [srtP, insP_count, List.getD_eq_getElem?_getD, List.getD_eq_getElem?_getD, List.getElem?_eq_getElem (show 2 * j < L.length by omega), List.getElem?_eq_getElem (show 2 * j + 1 < L.length by omega), Option.getD_some, Option.getD_some]
  rw [show 2 * (j + 1) = 2 * j + 1 + 1 from by omega, h2, h1]; omega
theorem tg_count : ∀ t : T, AllT drQ t → T.count (tg t) ≤ T.count t := by
 apply T.ind
 intro k n x s l ih h
 rw [AllT_iff] at h
 obtain ⟨⟨hq, hs, hl, hnm⟩, hall⟩ := h
 simp only [T.k, T.n, T.x, T.s, T.l] at hq hs hl hnm hall
 rw [tg, tgs_map]
 have hm := countL_map (f := tg) l (fun t ht => ih t ht (hall t ht)) l.length
 rw [List.take_length, List.take_of_length_le (by simp)] at hm
 by_cases k6 : k = 6
 ·rw [if_pos k6]; simp [T.count, T.countL]
 rw [if_neg k6]
 by_cases k10 : k = 10
 ·rw [if_pos k10]
  have h1 := fixN_count (l.map tg) _ (Nat.le_refl _)
  rw [List.take_length] at h1
  have h2 := srtP_count (fixN [] (l.map tg)) (l.length / 2) (by rw [fixN_len]; simp; omega)
  have h3 := T.countL_take_le (fixN [] (l.map tg)) (2 * (l.length / 2))
  simp only [T.count]; omega
 ·rw [if_neg k10]; simp only [T.count]; omega
theorem tq_sz : ∀ t : T, ∀ D, AllT tqQ t → T.depth t ≤ D → T.sz t ≤ szB D := by
 apply T.ind
 intro k n x s l ih D h hd
 rw [AllT_iff] at h
 obtain ⟨⟨_, hs, hl, _⟩, hall⟩ := h
 simp only [T.s, T.l] at hs hl hall
 cases D with
 | zero => simp [T.depth] at hd
 | succ D =>
  simp only [T.depth] at hd
  have key : ∀ r : List T, (∀ u ∈ r, u ∈ l) → T.szL r ≤ r.length * (1 + szB D) := by
   intro r
   induction r with
   | nil => intro _; simp [T.szL]
   | cons u r ihr =>
    intro hm
    have hu := hm u (by simp)
    obtain ⟨i, hi, he⟩ := List.getElem_of_mem hu
    have h1 := ih u hu D (hall u hu) (by have := T.depth_get l i hi; rw [he] at this; omega)
    have h2 := ihr (fun v hv => hm v (by simp [hv]))
    simp only [T.szL, List.length_cons, Nat.succ_mul]
    omega
  have h1 := key l (fun _ h => h)
  have h2 : l.length * (1 + szB D) ≤ 6 * (1 + szB D) := Nat.mul_le_mul_right _ hl
  simp only [T.sz, szB]; omega
theorem Rd.mid {w : World} {B cap b o : Nat} {l : List Int} (h : Rd EByte 1 w B (some ⟨b, o, none⟩) cap l) (i m c : Nat) (him : i + m ≤ l.length) (hmc : m ≤ c) (hc : c ≤ maxLen) : Rd EByte 1 w B (some ⟨b, o + i, none⟩) c ((l.drop i).take m) := by
 obtain ⟨F, ⟨h1, h2, h3, h4⟩, hF⟩ := h
 have hlen : ((l.drop i).take m).length = m := by rw [List.length_take, List.length_drop]; omega
 by_cases hm : m = 0
 ·subst hm; rw [List.take_zero]; exact ⟨[], Sl.nil _ _ _ hc, by simp⟩
 obtain ⟨b', o', F', ha, rfl, hr⟩ := h4 (by rintro rfl; simp at him; omega)
 cases ha
 have e1 : l = l.take i ++ l.drop i := (List.take_append_drop i l).symm
 rw [e1] at hr
 obtain ⟨F1, F2, rfl, _, g2⟩ := Row.split hr
 have e2 : l.drop i = (l.drop i).take m ++ (l.drop i).drop m := (List.take_append_drop m (l.drop i)).symm
 rw [e2] at g2
 obtain ⟨G1, G2, rfl, g3, _⟩ := Row.split g2
 rw [List.length_take, Nat.min_eq_left (by omega), Nat.mul_one] at g3
 refine ⟨b :: G1, ⟨by omega, hc, fun hn => by rw [hn] at hlen; simp at hlen; omega, fun _ => ⟨b, o + i, G1, rfl, rfl, g3⟩⟩, fun f hf => hF f ?_⟩
 rcases List.mem_cons.1 hf with rfl | hf
 ·simp
 ·simp [hf]
theorem Rd.u8 {w : World} {B cap : Nat} {a : Option Addr} {l : List Int} (h : Rd EByte 1 w B a cap l) : ∀ x ∈ l, U8 x := by
 intro x hx
 obtain ⟨i, hi, rfl⟩ := List.getElem_of_mem hx
 obtain ⟨b, o, _, _, _, hu⟩ := h.byte i hi
 exact hu
theorem impl_exist (a : Option Addr) (m cap : Nat) (p n : Int) (w : World) (hm : m ≤ 1099511627776) (hn : I64 n) : Calls Tryz.prog 161 #[.slice a m cap, .int .i64 p, .int .i64 n] w fun e w' => e = .returned (.bool (decide ((0 ≤ n ∧ n ≤ m) ∧ (0 ≤ p ∧ p ≤ m - n)))) ∧ Below w.heap.size w w' := by
 by_cases h1 : 0 ≤ n ∧ n ≤ (m : Int)
 ·have D1 := Lib.hid (show decide (0 ≤ n ∧ n ≤ (m : Int)) = true from decide_eq_true h1)
  have HE := Lib.hid (show decide ((0 ≤ n ∧ n ≤ (m : Int)) ∧ (0 ≤ p ∧ p ≤ m - n)) = decide (0 ≤ p ∧ p ≤ (m : Int) - n) from by simp [h1])
  rw [HE.out]
  have hw : wrap64 ((m : Int) - n) = (m : Int) - n := Go.IntWalk.wrap64_in _ ⟨by omega, by omega⟩
  have HW := Lib.hid hw
  obtain ⟨d, hd⟩ : ∃ d, decide (0 ≤ p ∧ p ≤ (m : Int) - n) = d := ⟨_, rfl⟩
  have HD := Lib.hid hd
  rw [hd]
  obtain ⟨h1a, h1b⟩ := h1
  clear hd HE
  go_enter Tryz.func161, Tryz.ntmps161
  go_wp2_with (go_at_call 125; refine (impl_withinE _ _ _ _).mono ?_; rintro ee w2 ⟨rfl, rfl⟩; first | rw [D1.out] | rw [HD.out])
  go_ret
  exact ⟨rfl, Below.refl _ _⟩
 ·have D1 := Lib.hid (show decide (0 ≤ n ∧ n ≤ (m : Int)) = false from decide_eq_false h1)
  have HE := Lib.hid (show decide ((0 ≤ n ∧ n ≤ (m : Int)) ∧ (0 ≤ p ∧ p ≤ m - n)) = false from decide_eq_false (fun h => h1 h.1))
  rw [HE.out]
  clear HE h1
  go_enter Tryz.func161, Tryz.ntmps161
  go_wp2_with (go_at_call 125; refine (impl_withinE _ _ _ _).mono ?_; rintro ee w2 ⟨rfl, rfl⟩; rw [D1.out])
  go_ret
  exact ⟨rfl, Below.refl _ _⟩
set_option maxHeartbeats 4000000 in
theorem impl_shortMark (c : Int) (w : World) (hc0 : 0 ≤ c) (hc1 : c ≤ 255) :
  Calls Tryz.prog 224 #[.int .i64 c] w fun ee w' => ee = .returned (.tuple #[.agg (cM ((shortD c).getD (0, 0)).1 ((shortD c).getD (0, 0)).2), .bool (shortD c).isSome]) ∧ Below w.heap.size w w' := by
 have q0 := Is.new w (cM 0 0) 87
 have ff := fun i => q0.frozen i
 obtain ⟨z0, z1⟩ := q0.cells2
 have lg : w.heap.size < (w.alloc (.cells (cM 0 0) 87)).heap.size := by simp
 by_cases h0 : c < 128
 case pos =>
  have HD := Lib.hid (show shortD c = some (3, c) from by unfold shortD; rw [if_pos h0])
  rw [HD.out]; clear HD
  go_enter Tryz.func224, Tryz.ntmps224
  go_wp2_with fail
  obtain ⟨e0, e1⟩ := ((q0.set 0 (.int .i64 (3))).set 1 (.int .i64 (c))).cells2
  refine bodyPost_ret (v := .tuple #[.agg #[.int .i64 (3), .int .i64 (c)], .bool true]) (by simp [results, Tryz.results224, go_sem, e0, e1]) rfl ⟨rfl, by first | exact below1 w _ | exact (below1 w _).trans ((below2s _ _ _ _).mono (Nat.le_refl _))⟩
 by_cases h1 : c < 144
 case pos =>
  have HD := Lib.hid (show shortD c = some (10, c - 128) from by unfold shortD; rw [if_neg h0, if_pos h1])
  rw [HD.out]; clear HD
  go_enter Tryz.func224, Tryz.ntmps224
  go_wp2_with fail
  obtain ⟨e0, e1⟩ := ((q0.set 0 (.int .i64 (10))).set 1 (.int .i64 (c - 128))).cells2
  refine bodyPost_ret (v := .tuple #[.agg #[.int .i64 (10), .int .i64 (c - 128)], .bool true]) (by simp [results, Tryz.results224, go_sem, e0, e1]) rfl ⟨rfl, by first | exact below1 w _ | exact (below1 w _).trans ((below2s _ _ _ _).mono (Nat.le_refl _))⟩
 by_cases h2 : c < 160
 case pos =>
  have HD := Lib.hid (show shortD c = some (9, c - 144) from by unfold shortD; rw [if_neg h0, if_neg h1, if_pos h2])
  rw [HD.out]; clear HD
  go_enter Tryz.func224, Tryz.ntmps224
  go_wp2_with fail
  obtain ⟨e0, e1⟩ := ((q0.set 0 (.int .i64 (9))).set 1 (.int .i64 (c - 144))).cells2
  refine bodyPost_ret (v := .tuple #[.agg #[.int .i64 (9), .int .i64 (c - 144)], .bool true]) (by simp [results, Tryz.results224, go_sem, e0, e1]) rfl ⟨rfl, by first | exact below1 w _ | exact (below1 w _).trans ((below2s _ _ _ _).mono (Nat.le_refl _))⟩
 by_cases h3 : c < 192
 case pos =>
  have HD := Lib.hid (show shortD c = some (7, c - 160) from by unfold shortD; rw [if_neg h0, if_neg h1, if_neg h2, if_pos h3])
  rw [HD.out]; clear HD
  go_enter Tryz.func224, Tryz.ntmps224
  go_wp2_with fail
  obtain ⟨e0, e1⟩ := ((q0.set 0 (.int .i64 (7))).set 1 (.int .i64 (c - 160))).cells2
  refine bodyPost_ret (v := .tuple #[.agg #[.int .i64 (7), .int .i64 (c - 160)], .bool true]) (by simp [results, Tryz.results224, go_sem, e0, e1]) rfl ⟨rfl, by first | exact below1 w _ | exact (below1 w _).trans ((below2s _ _ _ _).mono (Nat.le_refl _))⟩
 by_cases h4 : c = 192
 case pos =>
  subst h4
  have HD := Lib.hid (show shortD 192 = some (1, 0) from rfl)
  rw [HD.out]; clear HD h0 h1 h2 h3 hc0 hc1
  go_enter Tryz.func224, Tryz.ntmps224
  go_wp2_with fail
  obtain ⟨e0, e1⟩ := ((q0.set 0 (.int .i64 (1))).set 1 (.int .i64 (0))).cells2
  refine bodyPost_ret (v := .tuple #[.agg #[.int .i64 (1), .int .i64 (0)], .bool true]) (by simp [results, Tryz.results224, go_sem, e0, e1]) rfl ⟨rfl, by first | exact below1 w _ | exact (below1 w _).trans ((below2s _ _ _ _).mono (Nat.le_refl _))⟩
 by_cases h194 : c = 194
 case pos =>
  subst h194
  have HD := Lib.hid (show shortD 194 = some (2, 0) from rfl)
  rw [HD.out]; clear HD h0 h1 h2 h3 h4 hc0 hc1
  go_enter Tryz.func224, Tryz.ntmps224
  go_wp2_with fail
  obtain ⟨e0, e1⟩ := ((q0.set 0 (.int .i64 (2))).set 1 (.int .i64 (0))).cells2
  refine bodyPost_ret (v := .tuple #[.agg #[.int .i64 (2), .int .i64 (0)], .bool true]) (by simp [results, Tryz.results224, go_sem, e0, e1]) rfl ⟨rfl, by first | exact below1 w _ | exact (below1 w _).trans ((below2s _ _ _ _).mono (Nat.le_refl _))⟩
 by_cases h195 : c = 195
 case pos =>
  subst h195
  have HD := Lib.hid (show shortD 195 = some (2, 1) from rfl)
  rw [HD.out]; clear HD h0 h1 h2 h3 h4 hc0 hc1 h194
  go_enter Tryz.func224, Tryz.ntmps224
  go_wp2_with fail
  obtain ⟨e0, e1⟩ := ((q0.set 0 (.int .i64 (2))).set 1 (.int .i64 (1))).cells2
  refine bodyPost_ret (v := .tuple #[.agg #[.int .i64 (2), .int .i64 (1)], .bool true]) (by simp [results, Tryz.results224, go_sem, e0, e1]) rfl ⟨rfl, by first | exact below1 w _ | exact (below1 w _).trans ((below2s _ _ _ _).mono (Nat.le_refl _))⟩
 have b4 : (c == 192) = false := by simpa using h4
 have b5 : (c == 194) = false := by simpa using h194
 have b6 : (c == 195) = false := by simpa using h195
 by_cases h6 : 224 ≤ c
 case pos =>
  have HD := Lib.hid (show shortD c = some (3, c - 256) from by unfold shortD; rw [if_neg h0, if_neg h1, if_neg h2, if_neg h3, if_neg h4, if_neg (by omega), if_pos h6])
  rw [HD.out]; clear HD
  go_enter Tryz.func224, Tryz.ntmps224
  go_wp2_with fail
  obtain ⟨e0, e1⟩ := ((q0.set 0 (.int .i64 (3))).set 1 (.int .i64 (c - 256))).cells2
  refine bodyPost_ret (v := .tuple #[.agg #[.int .i64 (3), .int .i64 (c - 256)], .bool true]) (by simp [results, Tryz.results224, go_sem, e0, e1]) rfl ⟨rfl, by first | exact below1 w _ | exact (below1 w _).trans ((below2s _ _ _ _).mono (Nat.le_refl _))⟩
 have HD := Lib.hid (show shortD c = none from by unfold shortD; rw [if_neg h0, if_neg h1, if_neg h2, if_neg h3, if_neg h4, if_neg (by omega), if_neg h6])
 rw [HD.out]; clear HD
 go_enter Tryz.func224, Tryz.ntmps224
 go_wp2_with fail
 obtain ⟨e0, e1⟩ := ((q0.set 0 (.int .i64 (0))).set 1 (.int .i64 (0))).cells2
 refine bodyPost_ret (v := .tuple #[.agg #[.int .i64 (0), .int .i64 (0)], .bool false]) (by simp [results, Tryz.results224, go_sem, e0, e1]) rfl ⟨rfl, by first | exact below1 w _ | exact (below1 w _).trans ((below2s _ _ _ _).mono (Nat.le_refl _))⟩
set_option maxHeartbeats 4000000 in
theorem impl_markForm (c : Int) (w : World) (hc0 : 0 ≤ c) (hc1 : c ≤ 255) :
  Calls Tryz.prog 225 #[.int .i64 c] w fun ee w' => ee = .returned (.tuple #[.int .i64 (formD c).1, .int .i64 ((formD c).2 : Nat)]) ∧ Below w.heap.size w w' := by
 by_cases hin : c = 196 ∨ c = 197 ∨ c = 198 ∨ c = 202 ∨ c = 204 ∨ c = 205 ∨ c = 206 ∨ c = 207 ∨ c = 208 ∨ c = 209 ∨ c = 210 ∨ c = 211 ∨ c = 212 ∨ c = 217 ∨ c = 218 ∨ c = 219 ∨ c = 220 ∨ c = 221 ∨ c = 222 ∨ c = 223
 ·rcases hin with rfl | rfl | rfl | rfl | rfl | rfl | rfl | rfl | rfl | rfl | rfl | rfl | rfl | rfl | rfl | rfl | rfl | rfl | rfl | rfl
  all_goals
   clear hc0 hc1
   go_enter Tryz.func225, Tryz.ntmps225
   go_wp2_with (go_at_call 125; refine (impl_withinE _ _ _ _).mono ?_; rintro ee w2 ⟨rfl, rfl⟩; first | rw [decide_eq_true (by decide)] | rw [decide_eq_false (by decide)])
   go_ret2
   exact ⟨rfl, Below.refl _ _⟩
 ·have HD := Lib.hid (show formD c = (0, 0) from by unfold formD; rw [if_neg (by omega), if_neg (by omega), if_neg (by omega), if_neg (by omega), if_neg (by omega), if_neg (by omega), if_neg (by omega), if_neg (by omega), if_neg (by omega), if_neg (by omega), if_neg (by omega), if_neg (by omega), if_neg (by omega), if_neg (by omega), if_neg (by omega), if_neg (by omega), if_neg (by omega), if_neg (by omega), if_neg (by omega), if_neg (by omega)])
  rw [HD.out]
  have d1 : decide (196 ≤ c ∧ c ≤ 198) = false := decide_eq_false (by omega)
  have d2 : decide (204 ≤ c ∧ c ≤ 207) = false := decide_eq_false (by omega)
  have d3 : decide (208 ≤ c ∧ c ≤ 211) = false := decide_eq_false (by omega)
  have d4 : decide (217 ≤ c ∧ c ≤ 219) = false := decide_eq_false (by omega)
  have D1 := Lib.hid d1; have D2 := Lib.hid d2; have D3 := Lib.hid d3; have D4 := Lib.hid d4
  have b1 : (c == 202) = false := by simp; omega
  have b2 : (c == 212) = false := by simp; omega
  have b3 : (c == 220) = false := by simp; omega
  have b4 : (c == 221) = false := by simp; omega
  have b5 : (c == 222) = false := by simp; omega
  have b6 : (c == 223) = false := by simp; omega
  clear HD hin d1 d2 d3 d4
  go_enter Tryz.func225, Tryz.ntmps225
  go_wp2_with (go_at_call 125; refine (impl_withinE _ _ _ _).mono ?_; rintro ee w2 ⟨rfl, rfl⟩; first | rw [D1.out] | rw [D2.out] | rw [D3.out] | rw [D4.out])
  go_ret2
  exact ⟨rfl, Below.refl _ _⟩
theorem or_u64 (n x : Int) (h0 : 0 ≤ n) (hn : n < 72057594037927936) (hx0 : 0 ≤ x) (hx : x ≤ 255) : bits .or .u64 (n * 256) x = n * 256 + x := by
 obtain ⟨u, rfl⟩ : ∃ u : Nat, n = u := ⟨n.toNat, by omega⟩
 obtain ⟨v, rfl⟩ : ∃ v : Nat, x = v := ⟨x.toNat, by omega⟩
 have hv : v < 2 ^ 8 := by omega
 show IntKind.u64.wrap ((BitVec.ofInt 64 ((u : Int) * 256) ||| BitVec.ofInt 64 (v : Int)).toNat : Int) = _
 have e1 : (BitVec.ofInt 64 ((u : Int) * 256)).toNat = u * 2 ^ 8 := by rw [BitVec.toNat_ofInt]; omega
 have e2 : (BitVec.ofInt 64 (v : Int)).toNat = v := by rw [BitVec.toNat_ofInt]; omega
 rw [BitVec.toNat_or, e1, e2, Nat.mul_comm, ← Nat.two_pow_add_eq_or_of_lt hv]
 simp [IntKind.wrap, IntKind.bits, IntKind.signed]; omega
theorem sgN1 (n : Int) (h0 : 0 ≤ n) (h1 : n < 256 ^ 1) : sgN 1 n = wrap64 (n * 72057594037927936) / 72057594037927936 := by
 have e1 : (2 : Int) ^ (8 * 1 - 1) = 128 := by decide
 have e2 : (2 : Int) ^ (8 * 1) = 256 := by decide
 have e3 : (256 : Int) ^ 1 = 256 := by decide
 unfold sgN wrap64; rw [e1, e2]; split <;> omega
theorem sgN2 (n : Int) (h0 : 0 ≤ n) (h1 : n < 256 ^ 2) : sgN 2 n = wrap64 (n * 281474976710656) / 281474976710656 := by
 have e1 : (2 : Int) ^ (8 * 2 - 1) = 32768 := by decide
 have e2 : (2 : Int) ^ (8 * 2) = 65536 := by decide
 have e3 : (256 : Int) ^ 2 = 65536 := by decide
 unfold sgN wrap64; rw [e1, e2]; split <;> omega
theorem sgN4 (n : Int) (h0 : 0 ≤ n) (h1 : n < 256 ^ 4) : sgN 4 n = wrap64 (n * 4294967296) / 4294967296 := by
 have e1 : (2 : Int) ^ (8 * 4 - 1) = 2147483648 := by decide
 have e2 : (2 : Int) ^ (8 * 4) = 4294967296 := by decide
 have e3 : (256 : Int) ^ 4 = 4294967296 := by decide
 unfold sgN wrap64; rw [e1, e2]; split <;> omega
theorem sgN8 (n : Int) (h0 : 0 ≤ n) (h1 : n < 256 ^ 8) : sgN 8 n = wrap64 n := by
 have e1 : (2 : Int) ^ (8 * 8 - 1) = 9223372036854775808 := by decide
 have e2 : (2 : Int) ^ (8 * 8) = 18446744073709551616 := by decide
 have e3 : (256 : Int) ^ 8 = 18446744073709551616 := by decide
 unfold sgN wrap64; rw [e1, e2]; split <;> omega
def argN (sg : Bool) (bs : List Int) : Int := if sg then sgN bs.length (beN bs) else wrap64 (beN bs)
def argOk (sg : Bool) (bs : List Int) : Bool := if sg then decide (-1000000000000000 ≤ sgN bs.length (beN bs) ∧ sgN bs.length (beN bs) ≤ 1000000000000000) else decide (beN bs ≤ 1000000000000000)
set_option maxHeartbeats 8000000 in
theorem impl_argumentQ (bs : List Int) (a : Option Addr) (cap B : Nat) (sg : Bool) (w : World) (hr : Rd EByte 1 w B a cap bs) (hB : B ≤ w.heap.size) (hw : bs.length = 1 ∨ bs.length = 2 ∨ bs.length = 4 ∨ bs.length = 8) :
  Calls Tryz.prog 226 #[.slice a bs.length cap, .bool sg] w fun ee w' => ee = .returned (.tuple #[.int .i64 (argN sg bs), .bool (argOk sg bs)]) ∧ w' = w := by
 obtain ⟨hlc, hcap⟩ := hr.len
 have HU := Lib.hid hr.u8
 have HR := Lib.hid hr; clear hr
 have HW8 := Lib.hid hw
 have h8 : bs.length ≤ 8 := by omega
 clear hw
 go_enter Tryz.func226, Tryz.ntmps226
 go_wp2_with fail
 go_loopw [6, 8, 13] (fun nv _ iv wr => ∃ j : Nat, j ≤ bs.length ∧ iv = .int .i64 j ∧ nv = .int .u64 (beN (bs.take j)) ∧ 0 ≤ beN (bs.take j) ∧ beN (bs.take j) < 256 ^ j ∧ wr = w) (fun _ _ i _ => bs.length - (intOf i).toNat)
 case atStart => exact ⟨0, by omega, rfl, rfl, by simp [beN, beF], by simp [beN, beF], rfl⟩
 case round =>
  obtain ⟨j, hj, rfl, rfl, hn0, hn1, rfl⟩ := hrel
  by_cases hlt : j < bs.length
  ·have hltz : (j : Int) < (bs.length : Int) := by omega
   obtain ⟨b, o, rfl, hbl, hcell, hx0, hx1⟩ := HR.out.byte j hlt
   have hlb : b < wr.heap.size := by omega
   have hsn : beN (bs.take (j + 1)) = beN (bs.take j) * 256 + bs[j] := by unfold beN; rw [take_snoc bs j hlt, beF_append]; rfl
   have hpw : (256 : Int) ^ j ≤ 72057594037927936 := by
    have : (256 : Int) ^ j = ((256 ^ j : Nat) : Int) := by simp
    rw [this]
    have := Nat.pow_le_pow_right (show 0 < 256 by omega) (show j ≤ 7 by omega)
    have e : (256 : Nat) ^ 7 = 72057594037927936 := by decide
    omega
   have hp1 : (256 : Int) ^ (j + 1) = 256 ^ j * 256 := Int.pow_succ ..
   have HSN := Lib.hid hsn; have HP1 := Lib.hid hp1; clear hsn hp1
   generalize (256 : Int) ^ j = pj at *
   generalize bs[j] = x at *
   generalize beN (bs.take j) = n at *
   have hor := or_u64 n x hn0 (by omega) hx0 hx1
   have hwu : IntKind.u64.wrap (n * 256) = n * 256 := by simp [IntKind.wrap, IntKind.bits, IntKind.signed]; omega
   go_wp2_with fail
   go_roundw
   case rel => exact ⟨j + 1, by omega, by go_num, by rw [HSN.out], by rw [HSN.out]; omega, by rw [HSN.out, HP1.out]; omega, by first | rfl | trivial⟩
   case measure => simp [intOf]; omega
  ·obtain rfl : j = bs.length := by omega
   rw [List.take_length] at hn0 hn1
   rw [List.take_length]
   have hltz : ¬ (bs.length : Int) < (bs.length : Int) := by omega
   obtain ⟨n, hn⟩ : ∃ n, beN bs = n := ⟨_, rfl⟩
   obtain ⟨m, hm⟩ : ∃ m, bs.length = m := ⟨_, rfl⟩
   rw [hn] at hn0 hn1
   rw [hm] at hn1
   rw [hm] at hltz h8
   rw [hn, hm]
   have HN := Lib.hid hn; have HM := Lib.hid hm
   have HW9 := Lib.hid (show m = 1 ∨ m = 2 ∨ m = 4 ∨ m = 8 from by rw [← hm]; exact HW8.out)
   clear hn hm hj hlt
   cases sg with
   | false =>
    have HA := Lib.hid (show argN false bs = wrap64 n from by rw [← HN.out]; rfl)
    have HO := Lib.hid (show argOk false bs = decide (n ≤ 1000000000000000) from by rw [← HN.out]; rfl)
    go_wp2_with fail
    go_ret2
    exact ⟨by rw [HA.out, HO.out]; rfl, rfl⟩
   | true =>
    have HA := Lib.hid (show argN true bs = sgN m n from by rw [← HN.out, ← HM.out]; rfl)
    have HO := Lib.hid (show argOk true bs = decide (-1000000000000000 ≤ sgN m n ∧ sgN m n ≤ 1000000000000000) from by rw [← HN.out, ← HM.out]; rfl)
    rcases HW9.out with rfl | rfl | rfl | rfl
    all_goals
     go_wp2_with fail
     refine (impl_withinE _ _ _ _).mono ?_
     rintro ee w2 ⟨rfl, rfl⟩
     go_wp2_with fail
     go_ret2
     exact ⟨by rw [HA.out, HO.out]; (first | rw [sgN1 n hn0 hn1] | rw [sgN2 n hn0 hn1] | rw [sgN4 n hn0 hn1] | rw [sgN8 n hn0 hn1]); (first | done | rfl | simp [Bool.decide_and]), rfl⟩
end Go.Proofs.YtggdenkmohnijaaGreatDoor
