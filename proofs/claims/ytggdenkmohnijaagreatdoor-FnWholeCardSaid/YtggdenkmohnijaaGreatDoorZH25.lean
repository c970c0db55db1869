/- Texts of this proof, merged: PkP. No condition beyond what each theorem states. -/
import Derived.Test.YtggdenkmohnijaaGreatDoorZH24
set_option linter.unusedSimpArgs false
set_option linter.unnecessarySimpa false
namespace Go.Proofs.YtggdenkmohnijaaGreatDoor
open Go.ChangeShapes Go.WideShapes Go.ChangeAt Go.RowKit Go.Joins
set_option linter.unusedVariables false
set_option maxRecDepth 100000
theorem bytes_nil {s : ByteArray} (h : s.toList = []) : s = ⟨#[]⟩ := by
 have h2 : s.data.toList = [] := by rw [← Lib.toList_data]; exact h
 apply ByteArray.ext
 exact Array.toList_inj.1 (by simpa using h2)
def Asc (b : ByteArray) : Prop := ∀ x ∈ b.data.toList, x.toNat < 128
theorem Asc.app {a b : ByteArray} (ha : Asc a) (hb : Asc b) : Asc (a ++ b) := by
 intro x hx
 rw [ByteArray.data_append, Array.toList_append] at hx
 rcases List.mem_append.1 hx with h | h
 ·exact ha x h
 ·exact hb x h
theorem Asc.ext {a : ByteArray} (ha : Asc a) (i j : Nat) : Asc (a.extract i j) := by
 intro x hx
 rw [ByteArray.data_extract, Array.toList_extract, List.extract_eq_take_drop] at hx
 exact ha x (List.mem_of_mem_drop (List.mem_of_mem_take hx))
theorem Asc.valid {a : ByteArray} (ha : Asc a) : Lib.validD a.data.toList = true := by
 have : ∀ l : List UInt8, (∀ b ∈ l, b.toNat < 128) → Lib.validD l = true := by
  intro l
  induction l with
  | nil => intro _; exact Lib.validD_nil
  | cons b r ih => intro h; rw [Lib.validD_cons b r (h b (by simp))]; exact ih (fun x hx => h x (by simp [hx]))
 exact this _ ha
theorem dec_asc : ∀ u : Nat, ∀ x ∈ Lib.decDigits u, x.toNat < 128 := by
 intro u
 induction u using Nat.strongRecOn with
 | ind u ih =>
  intro x hx
  rw [Lib.decDigits] at hx
  by_cases h : u < 10
  ·rw [dif_pos h, List.mem_singleton] at hx
   rw [hx, u8_toNat _ (by omega)]; omega
  ·rw [dif_neg h] at hx
   rcases List.mem_append.1 hx with h1 | h1
   ·exact ih (u / 10) (by omega) x h1
   ·rw [List.mem_singleton] at h1
    rw [h1, u8_toNat _ (by omega)]; omega
theorem digT_asc (n : Int) : Asc (digT n) := by intro x hx; exact dec_asc _ x (by simpa [digT] using hx)
theorem one_asc (b : UInt8) (h : b.toNat < 128) : Asc ⟨#[b]⟩ := by
 intro x hx
 rw [show (⟨#[b]⟩ : ByteArray).data.toList = [b] from rfl, List.mem_singleton] at hx
 rw [hx]; exact h
theorem nil_asc : Asc ⟨#[]⟩ := by intro x hx; simp at hx
theorem padZ_asc (f m : Nat) : ∀ s : ByteArray, Asc s → Asc (padZ f m s) := by
 induction f with
 | zero => intro s h; exact h
 | succ f ih =>
  intro s h
  rw [padZ]
  split
  ·exact ih _ ((one_asc 48 (by decide)).app h)
  ·exact h
theorem decBody_asc (n : Int) (m : Nat) : Asc (decBody n m) := by
 unfold decBody
 have h := padZ_asc 60 m _ (digT_asc n)
 exact ((h.ext _ _).app (one_asc 46 (by decide))).app (h.ext _ _)
theorem numT_asc (n : Int) : Asc (numT n) := by
 by_cases h : n < 0
 ·rw [numT_neg h]; exact (one_asc 45 (by decide)).app (digT_asc n)
 ·rw [numT_pos h]; exact digT_asc n
theorem decTx_asc (n : Int) (m : Nat) : Asc (decTx n m) := by
 unfold decTx
 split
 ·exact nil_asc
 split
 ·exact numT_asc n
 split
 ·exact (one_asc 45 (by decide)).app (decBody_asc n m)
 ·exact decBody_asc n m
def kName (i : Nat) : T := .mk 7 0 0 (⟨#[107]⟩ ++ numT i) []
def hasN (out : List T) (x : T) : Bool := hasP out x
def fixN : List T → List T → List T
 | out, [] => out
 | out, x :: r => fixN (out ++ [if out.length % 2 = 0 ∧ hasN out x = true then kName out.length else x]) r
mutual
def pk16 : T → T
 | .mk k n x s l => if k = 6 then .mk 7 0 0 (decTx n (-x).toNat) [] else if k = 11 then (pk16s l).getD 0 zT else .mk k n x s (if k = 10 then fixN [] (pk16s l) else pk16s l)
def pk16s : List T → List T
 | [] => []
 | t :: r => pk16 t :: pk16s r
end
theorem pk16s_map : ∀ l : List T, pk16s l = l.map pk16 := by
 intro l
 induction l with
 | nil => rfl
 | cons t r ih => rw [pk16s, ih]; rfl
theorem fixN_app (l m : List T) : ∀ out : List T, fixN out (l ++ m) = fixN (fixN out l) m := by
 induction l with
 | nil => intro out; rfl
 | cons x r ih => intro out; rw [List.cons_append, fixN, fixN, ih]
theorem fixN_len : ∀ (l out : List T), (fixN out l).length = out.length + l.length := by
 intro l
 induction l with
 | nil => intro out; rfl
 | cons x r ih => intro out; rw [fixN, ih]; simp; omega
theorem fixN_take (l : List T) (j : Nat) (h : j < l.length) : fixN [] (l.take (j + 1)) = fixN [] (l.take j) ++ [if j % 2 = 0 ∧ hasN (fixN [] (l.take j)) l[j] = true then kName j else l[j]] := by
 rw [take_snoc l j h, fixN_app]
 have e : (fixN [] (l.take j)).length = j := by rw [fixN_len]; simp; omega
 simp only [fixN, e]
def pkQ (t : T) : Prop := ownQ t.k t.n t.x t.s t.l.length ∧ t.s.size ≤ 200 ∧ t.l.length ≤ 6 ∧ t.k ≠ 6 ∧ t.k ≠ 11 ∧ onceB t = true
theorem onceB_ne {t : T} (h : t.k ≠ 10) : onceB t = true := by unfold onceB namesT; rw [if_neg h]; rfl
theorem kName_own (i : Nat) : ownQ 7 0 0 (⟨#[107]⟩ ++ numT i) 0 := (own7 _ _ _ _).2 ⟨rfl, rfl, rfl, ((one_asc 107 (by decide)).app (numT_asc i)).valid⟩
theorem kName_list (i : Nat) (h : i < 10) : (kName i).s.data.toList = [107, UInt8.ofNat (48 + i)] := by
 show ((⟨#[107]⟩ : ByteArray) ++ numT (i : Int)).data.toList = _
 rw [numT_pos (by omega), ByteArray.data_append, Array.toList_append]
 simp [digT, Lib.decDigits_one h]
theorem kName_inj {i j : Nat} (hi : i < 10) (hj : j < 10) (h : kName i = kName j) : i = j := by
 have h2 : (kName i).s.data.toList = (kName j).s.data.toList := by rw [h]
 rw [kName_list i hi, kName_list j hj] at h2
 simp only [List.cons.injEq, and_true, true_and] at h2
 have h3 := congrArg UInt8.toNat h2
 rw [u8_toNat _ (by omega), u8_toNat _ (by omega)] at h3
 omega
theorem kName_nam {i : Nat} (hi : i < 10) {t : T} (h : namQ t) : t ≠ kName i := by
 rintro rfl
 obtain ⟨_, _, ⟨hk, _⟩ | ⟨_, _, hs⟩⟩ := h
 ·exact absurd (show (7 : Int) = 3 from hk) (by decide)
 ·have hl := kName_list i hi
  have h3 : (UInt8.ofNat (48 + i)).toNat = 48 + i := u8_toNat _ (by omega)
  simp only [List.mem_cons, List.not_mem_nil, or_false] at hs
  rcases hs with h | h | h | h | h | h <;> rw [h] at hl <;> simp at hl
theorem kName_size (i : Nat) (h : i < 10) : (kName i).s.size ≤ 200 := by
 rw [Lib.size_eq, kName_list i h]; simp
theorem pk16_name {t : T} (h : namQ t) : pk16 t = t := by
 obtain ⟨h1, h2, h3⟩ := h
 obtain ⟨k, n, x, s, l⟩ := t
 obtain rfl : l = [] := h1
 have hk : k = 3 ∨ k = 7 := by
  rcases h3 with h | h
  ·exact Or.inl h.1
  ·exact Or.inr h.1
 rw [pk16, if_neg (by omega), if_neg (by omega), if_neg (by omega)]; rfl
theorem once_snoc (ns : List T) (x : T) (h : onceN ns ns.length = true) (hx : ∀ o ∈ ns, o ≠ x) : onceN (ns ++ [x]) (ns ++ [x]).length = true := by
 have pre : ∀ j, j ≤ ns.length → onceN (ns ++ [x]) j = onceN ns j := by
  intro j
  induction j with
  | zero => intro _; rfl
  | succ j ih =>
   intro hj
   rw [onceN_succ _ j (by simp; omega), onceN_succ _ j (by omega), ih (by omega), List.getElem_append_left (by omega), List.take_append_of_le_length (by omega)]
 rw [List.length_append, List.length_singleton, onceN_succ _ ns.length (by simp), pre _ (Nat.le_refl _), h, List.getElem_concat_length rfl, List.take_append_of_le_length (Nat.le_refl _), List.take_length]
 rw [Bool.true_and, Bool.not_eq_true', List.any_eq_false]
 intro o ho
 rw [sameT_iff]; exact hx o ho
theorem evN_pre (l m : List T) (p : Nat) (h : 2 * p ≤ l.length + 1) : evN (l ++ m) p = evN l p := by
 induction p with
 | zero => rfl
 | succ p ih =>
  rw [evN_succ (l ++ m) p (2 * p) rfl (by simp; omega), evN_succ l p (2 * p) rfl (by omega), ih (by omega), List.getElem_append_left (by omega)]
theorem evN_at (l : List T) : ∀ p, 2 * p ≤ l.length + 1 → ∀ o ∈ evN l p, ∃ i, ∃ h : i < l.length, i % 2 = 0 ∧ i < 2 * p ∧ o = l[i] := by
 intro p
 induction p with
 | zero => intro _ o ho; simp [evN] at ho
 | succ p ih =>
  intro hp o ho
  rw [evN_succ l p (2 * p) rfl (by omega)] at ho
  rcases List.mem_append.1 ho with h | h
  ·obtain ⟨i, h1, h2, h3, h4⟩ := ih (by omega) o h
   exact ⟨i, h1, h2, by omega, h4⟩
  ·rw [List.mem_singleton] at h
   exact ⟨2 * p, by omega, by omega, by omega, h⟩
def NmOk (out : List T) : Prop := onceN (evN out ((out.length + 1) / 2)) (evN out ((out.length + 1) / 2)).length = true ∧ ∀ i (h : i < out.length), i % 2 = 0 → (namQ out[i] ∨ out[i] = kName i)
theorem NmOk.odd {out : List T} (h : NmOk out) (ho : out.length % 2 = 1) (x : T) : NmOk (out ++ [x]) := by
 obtain ⟨h1, h2⟩ := h
 refine ⟨?_, fun i hi hp => ?_⟩
 ·have e : ((out ++ [x]).length + 1) / 2 = (out.length + 1) / 2 := by simp; omega
  rw [e, evN_pre out [x] _ (by omega)]; exact h1
 ·have hl : i < out.length := by simp at hi; omega
  rw [List.getElem_append_left hl]; exact h2 i hl hp
theorem NmOk.even {out : List T} (h : NmOk out) (ho : out.length % 2 = 0) (hs : out.length < 10) {x : T} (hx : namQ x) : NmOk (out ++ [if out.length % 2 = 0 ∧ hasN out x = true then kName out.length else x]) := by
 obtain ⟨h1, h2⟩ := h
 have hev : (out.length + 1) / 2 = out.length / 2 := by omega
 rw [hev] at h1
 have hget := evN_at out (out.length / 2) (by omega)
 obtain ⟨y, hy⟩ : ∃ y, (if out.length % 2 = 0 ∧ hasN out x = true then kName out.length else x) = y := ⟨_, rfl⟩
 rw [hy]
 have hyn : namQ y ∨ y = kName out.length := by
  subst hy; split
  ·exact Or.inr rfl
  ·exact Or.inl hx
 have hne : ∀ o ∈ evN out (out.length / 2), o ≠ y := by
  intro o hoe
  obtain ⟨i, hi, hi2, _, rfl⟩ := hget o hoe
  subst hy
  split
  ·rcases h2 i hi hi2 with h | h
   ·exact kName_nam (by omega) h
   ·rw [h]; intro e; have := kName_inj (by omega) (by omega) e; omega
  ·rename_i hc
   have hn : hasN out x = false := by
    cases hb : hasN out x with
    | false => rfl
    | true => exact absurd ⟨ho, hb⟩ hc
   unfold hasN hasP at hn
   rw [List.any_eq_false] at hn
   have := hn _ hoe
   rwa [sameT_iff] at this
 refine ⟨?_, fun i hi hp => ?_⟩
 ·have e : ((out ++ [y]).length + 1) / 2 = out.length / 2 + 1 := by simp; omega
  rw [e, evN_succ _ _ out.length (by omega) (by simp), evN_pre out [y] _ (by omega), List.getElem_concat_length rfl]
  exact once_snoc _ _ h1 hne
 ·rcases Nat.lt_or_ge i out.length with hl | hl
  ·rw [List.getElem_append_left hl]; exact h2 i hl hp
  ·obtain rfl : i = out.length := by simp at hi; omega
   rw [List.getElem_concat_length rfl]; exact hyn
theorem fixN_ok (l : List T) (hl : l.length ≤ 6) (hn : ∀ i (h : i < l.length), i % 2 = 0 → namQ l[i]) : ∀ j, j ≤ l.length → NmOk (fixN [] (l.take j)) := by
 intro j
 induction j with
 | zero => intro _; rw [List.take_zero]; exact ⟨rfl, fun i h => by simp [fixN] at h⟩
 | succ j ih =>
  intro hj
  have h := ih (by omega)
  have e : (fixN [] (l.take j)).length = j := by rw [fixN_len]; simp; omega
  rw [fixN_take l j (by omega)]
  by_cases hp : j % 2 = 0
  ·have := h.even (by rw [e]; exact hp) (by rw [e]; omega) (hn j (by omega) hp)
   rwa [e] at this
  ·rw [if_neg (fun hh => hp hh.1)]
   exact h.odd (by rw [e]; omega) _
theorem fixN_mem (l : List T) : ∀ j, j ≤ l.length → ∀ x ∈ fixN [] (l.take j), x ∈ l ∨ ∃ i, i < j ∧ x = kName i := by
 intro j
 induction j with
 | zero => intro _ x hx; simp [fixN] at hx
 | succ j ih =>
  intro hj x hx
  rw [fixN_take l j (by omega)] at hx
  rcases List.mem_append.1 hx with h | h
  ·rcases ih (by omega) x h with h | ⟨i, hi, h⟩
   ·exact Or.inl h
   ·exact Or.inr ⟨i, by omega, h⟩
  ·rw [List.mem_singleton] at h
   split at h
   ·exact Or.inr ⟨j, by omega, h⟩
   ·exact Or.inl (h ▸ List.getElem_mem _)
theorem mem_get {α : Type} {x : α} {l : List α} (h : x ∈ l) : ∃ i, ∃ hi : i < l.length, l[i] = x := List.getElem_of_mem h
theorem T.depth_eta0 (t : T) : T.depth t = T.depthL t.l + 1 := by cases t; simp [T.depth, T.l]
theorem depth_one (k n x : Int) (s : ByteArray) : T.depth (.mk k n x s []) = 1 := by simp [T.depth, T.depthL]
theorem pk16_ok : ∀ t : T, AllT drQ t → AllT pkQ (pk16 t) ∧ T.depth (pk16 t) ≤ T.depth t := by
 apply T.ind
 intro k n x s l ih h
 rw [AllT_iff] at h
 obtain ⟨⟨hq, hs, hl, hnm⟩, hall⟩ := h
 simp only [T.k, T.n, T.x, T.s, T.l] at hq hs hl hnm hall
 rw [pk16]
 by_cases k6 : k = 6
 ·rw [if_pos k6]
  refine ⟨(AllT_iff _ _).2 ⟨⟨(own7 _ _ _ _).2 ⟨rfl, rfl, rfl, (decTx_asc _ _).valid⟩, decTx_size _ _, by simp [T.l], by simp [T.k], by simp [T.k], onceB_ne (by simp [T.k])⟩, by simp [T.l]⟩, ?_⟩
  rw [depth_one]; simp [T.depth]
 rw [if_neg k6]
 have hD : ∀ u ∈ l, T.depth (pk16 u) ≤ T.depthL l := by
  intro u hu
  obtain ⟨i, hi, rfl⟩ := mem_get hu
  exact Nat.le_trans (ih _ hu (hall _ hu)).2 (T.depth_get l i hi)
 by_cases k11 : k = 11
 ·rw [if_pos k11]
  subst k11
  have hone := ((own11 _ _ _ _).1 hq).2.2.2
  obtain ⟨u, rfl⟩ : ∃ u, l = [u] := List.length_eq_one_iff.1 hone
  have h1 := ih u (by simp) (hall u (by simp))
  have h2 := hD u (by simp)
  refine ⟨h1.1, ?_⟩
  show T.depth (pk16 u) ≤ _
  simp only [T.depth]; omega
 rw [if_neg k11, pk16s_map]
 by_cases k10 : k = 10
 ·subst k10
  rw [if_pos rfl]
  have hlen : (l.map pk16).length = l.length := by simp
  have hev := ((own10 _ _ _ _).1 hq).2.2
  have hnames : ∀ i (h : i < (l.map pk16).length), i % 2 = 0 → namQ (l.map pk16)[i] := by
   intro i hi hp
   rw [List.getElem_map]
   have := hnm rfl i (by simpa using hi) hp
   rw [pk16_name this]; exact this
  have hok := fixN_ok (l.map pk16) (by omega) hnames _ (Nat.le_refl _)
  have hmm := fixN_mem (l.map pk16) _ (Nat.le_refl _)
  rw [List.take_length] at hok hmm
  have hfl : (fixN [] (l.map pk16)).length = l.length := by rw [fixN_len]; simp
  have hch : ∀ u ∈ fixN [] (l.map pk16), AllT pkQ u ∧ T.depth u ≤ T.depthL l := by
   intro u hu
   rcases hmm u hu with h | ⟨i, hi, rfl⟩
   ·obtain ⟨v, hv, rfl⟩ := List.mem_map.1 h
    exact ⟨(ih v hv (hall v hv)).1, hD v hv⟩
   ·refine ⟨(AllT_iff _ _).2 ⟨⟨kName_own i, kName_size i (by omega), by simp [kName, T.l], by simp [kName, T.k], by simp [kName, T.k], onceB_ne (by simp [kName, T.k])⟩, by simp [kName, T.l]⟩, ?_⟩
    have h1 : T.depth (kName i) = 1 := depth_one _ _ _ _
    rw [h1]
    have hpos : 0 < l.length := by omega
    have := T.depth_get l 0 hpos
    have h2 : 1 ≤ T.depth l[0] := by rw [T.depth_eta0]; omega
    omega
  refine ⟨(AllT_iff _ _).2 ⟨⟨by simp only [T.k, T.n, T.x, T.s, T.l]; rw [hfl]; exact hq, by simp only [T.s]; omega, by simp only [T.l]; omega, by simp [T.k], by simp [T.k], ?_⟩, fun u hu => (hch u hu).1⟩, ?_⟩
  ·unfold onceB namesT
   rw [if_pos (by rfl)]
   simp only [T.l]
   exact hok.1
  ·simp only [T.depth]
   have := depthL_le (fun u hu => (hch u hu).2)
   omega
 ·rw [if_neg k10]
  refine ⟨(AllT_iff _ _).2 ⟨⟨by simp only [T.k, T.n, T.x, T.s, T.l]; rw [List.length_map]; exact hq, by simp only [T.s]; omega, by simp only [T.l]; rw [List.length_map]; exact hl, k6, k11, onceB_ne k10⟩, fun u hu => ?_⟩, ?_⟩
  ·obtain ⟨v, hv, rfl⟩ := List.mem_map.1 hu
   exact (ih v hv (hall v hv)).1
  ·simp only [T.depth]
   have : T.depthL (l.map pk16) ≤ T.depthL l := depthL_le (fun u hu => by
    obtain ⟨v, hv, rfl⟩ := List.mem_map.1 hu
    exact hD v hv)
   omega
end Go.Proofs.YtggdenkmohnijaaGreatDoor
