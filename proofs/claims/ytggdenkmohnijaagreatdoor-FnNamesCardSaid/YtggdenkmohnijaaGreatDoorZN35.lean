/- Texts of this proof, merged: NmP. No condition beyond what each theorem states. -/
import Derived.Test.YtggdenkmohnijaaGreatDoorZN34
set_option linter.unusedSimpArgs false
set_option linter.unnecessarySimpa false
namespace Go.Proofs.YtggdenkmohnijaaGreatDoor
open Go.ChangeShapes Go.WideShapes Go.ChangeAt Go.RowKit Go.Joins
set_option linter.unusedVariables false
set_option maxRecDepth 100000
theorem pairs_ind {P : List T → Prop} (h0 : P []) (h1 : ∀ x, P [x]) (h2 : ∀ x y r, P r → P (x :: y :: r)) : ∀ l, P l
  | [] => h0
  | [x] => h1 x
  | x :: y :: r => h2 x y r (pairs_ind h0 h1 h2 r)
def evs : List T → List T
  | [] => []
  | [x] => [x]
  | x :: _ :: r => x :: evs r
def lastR : List T → List T
  | [] => []
  | [_] => []
  | x :: y :: r => if hasNm x r then lastR r else x :: y :: lastR r
theorem evN_evs : ∀ (l : List T) (p : Nat), p ≤ (l.length + 1) / 2 → evN l p ++ evs (l.drop (2 * p)) = evs l := by
  intro l p
  induction p with
  | zero => intro _; rfl
  | succ p ih =>
    intro hp
    have h1 : 2 * p < l.length := by omega
    rw [evN_succ l p (2 * p) rfl h1, List.append_assoc, ← ih (by omega)]
    congr 1
    rw [List.drop_eq_getElem_cons h1]
    by_cases h2 : 2 * p + 1 < l.length
    · rw [List.drop_eq_getElem_cons h2, evs, show 2 * (p + 1) = 2 * p + 1 + 1 from by omega]; rfl
    · rw [List.drop_of_length_le (by omega : l.length ≤ 2 * p + 1), List.drop_of_length_le (by omega : l.length ≤ 2 * (p + 1))]; rfl
theorem evN_all (l : List T) : evN l ((l.length + 1) / 2) = evs l := by
  have := evN_evs l ((l.length + 1) / 2) (Nat.le_refl _)
  rw [List.drop_of_length_le (by omega)] at this
  simpa [evs] using this
theorem keepN_last : ∀ (l : List T) (p : Nat), 2 * p ≤ l.length → keepN l p ++ lastR (l.drop (2 * p)) = lastR l := by
  intro l p
  induction p with
  | zero => intro _; rfl
  | succ p ih =>
    intro hp
    rw [keepN, List.append_assoc, ← ih (by omega)]
    congr 1
    have h1 : 2 * p < l.length := by omega
    have h2 : 2 * p + 1 < l.length := by omega
    rw [List.drop_eq_getElem_cons h1, List.drop_eq_getElem_cons h2, lastR, List.getD_eq_getElem?_getD, List.getElem?_eq_getElem h1, Option.getD_some, List.getD_eq_getElem?_getD, List.getElem?_eq_getElem h2, Option.getD_some, show 2 * (p + 1) = 2 * p + 1 + 1 from by omega]
    split <;> rfl
theorem lastP_R {l : List T} (h : l.length % 2 = 0) : lastP l = lastR l := by
  have := keepN_last l (l.length / 2) (by omega)
  rw [List.drop_of_length_le (by omega)] at this
  unfold lastP
  simpa [lastR] using this
theorem hasNm_evs (a : T) : ∀ l, hasNm a l = (evs l).any (fun x => sameT a x) := by
  apply pairs_ind
  · rfl
  · intro x; simp [hasNm, evs]
  · intro x y r ih; simp [hasNm, evs, ih]
theorem lastR_even : ∀ l : List T, (lastR l).length % 2 = 0 := by
  apply pairs_ind
  · rfl
  · intro x; rfl
  · intro x y r ih
    rw [lastR]
    split
    · exact ih
    · simp only [List.length_cons]; omega
theorem lastR_mem : ∀ l : List T, ∀ x ∈ lastR l, x ∈ l := by
  apply pairs_ind
  · intro x h; exact h
  · intro y x h; cases h
  · intro x y r ih z hz
    rw [lastR] at hz
    split at hz
    · exact List.mem_cons_of_mem _ (List.mem_cons_of_mem _ (ih z hz))
    · rcases List.mem_cons.1 hz with rfl | hz
      · exact List.mem_cons_self ..
      · rcases List.mem_cons.1 hz with rfl | hz
        · exact List.mem_cons_of_mem _ (List.mem_cons_self ..)
        · exact List.mem_cons_of_mem _ (List.mem_cons_of_mem _ (ih z hz))
theorem lastR_evs : ∀ l : List T, ∀ x ∈ evs (lastR l), x ∈ evs l := by
  apply pairs_ind
  · intro x h; exact h
  · intro y x h; cases h
  · intro x y r ih z hz
    rw [lastR] at hz
    rw [evs]
    split at hz
    · exact List.mem_cons_of_mem _ (ih z hz)
    · rw [evs] at hz
      rcases List.mem_cons.1 hz with rfl | hz
      · exact List.mem_cons_self ..
      · exact List.mem_cons_of_mem _ (ih z hz)
theorem lastR_nodup : ∀ l : List T, (evs (lastR l)).Nodup := by
  apply pairs_ind
  · exact List.nodup_nil
  · intro x; exact List.nodup_nil
  · intro x y r ih
    rw [lastR]
    split
    · exact ih
    · rename_i h
      rw [evs, List.nodup_cons]
      refine ⟨fun hm => h ?_, ih⟩
      rw [hasNm_evs, List.any_eq_true]
      exact ⟨x, lastR_evs r x hm, sameT_true rfl⟩
theorem lastR_idem : ∀ l : List T, lastR (lastR l) = lastR l := by
  apply pairs_ind
  · rfl
  · intro x; rfl
  · intro x y r ih
    rw [lastR]
    split
    · exact ih
    · rename_i h
      rw [lastR, ih, if_neg]
      intro h2
      apply h
      rw [hasNm_evs, List.any_eq_true] at h2 ⊢
      obtain ⟨z, hz, e⟩ := h2
      exact ⟨z, lastR_evs r z hz, e⟩
theorem lastR_szL : ∀ l : List T, T.szL (lastR l) ≤ T.szL l := by
  apply pairs_ind
  · exact Nat.le_refl _
  · intro x; exact Nat.zero_le _
  · intro x y r ih
    rw [lastR]
    split
    · simp only [T.szL]; omega
    · simp only [T.szL]; omega
theorem onceN_of {ns : List T} (h : ns.Nodup) : ∀ j, j ≤ ns.length → onceN ns j = true := by
  intro j
  induction j with
  | zero => intro _; rfl
  | succ j ih =>
    intro hj
    rw [onceN_succ ns j (by omega), ih (by omega), Bool.true_and, Bool.not_eq_true', List.any_eq_false]
    intro o ho he
    rw [sameT_iff] at he
    obtain ⟨i, hi, rfl⟩ := List.mem_take_iff_getElem.1 ho
    exact (List.pairwise_iff_getElem.1 h) i j (by omega) (by omega) (by omega) he
theorem lastT_map {l : List T} (h : l.length % 2 = 0) : lastT (.mk 10 0 0 ⟨#[]⟩ l) = .mk 10 0 0 ⟨#[]⟩ (lastR l) := by
  unfold lastT
  rw [if_pos ⟨rfl, h⟩, ← lastP_R h]; rfl
theorem lastT_list {k : Int} {l : List T} (h : k ≠ 10) : lastT (.mk k 0 0 ⟨#[]⟩ l) = .mk k 0 0 ⟨#[]⟩ l := if_neg (fun hh => h hh.1)
theorem evs_text {l : List T} (h : ∀ i (hi : i < l.length), i % 2 = 0 → (l[i]).k = 7) : ∀ x ∈ evs l, x.k = 7 := by
  revert h
  revert l
  apply pairs_ind
  · intro _ x hx; cases hx
  · intro y h x hx; rw [evs, List.mem_singleton] at hx; rw [hx]; exact h 0 (by simp) rfl
  · intro y z r ih h x hx
    rw [evs] at hx
    rcases List.mem_cons.1 hx with rfl | hx
    · exact h 0 (by simp) rfl
    · exact ih (fun i hi hp => by have := h (i + 2) (by simp; omega) (by omega); simpa using this) x hx
def Vd (a : ByteArray) : Prop := ∀ r, Lib.validD (a.data.toList ++ r) = Lib.validD r
theorem Vd.app {a b : ByteArray} (ha : Vd a) (hb : Vd b) : Vd (a ++ b) := by
  intro r
  rw [ByteArray.data_append, Array.toList_append, List.append_assoc, ha, hb]
theorem Vd.asc {a : ByteArray} (h : Asc a) : Vd a := by
  intro r
  unfold Asc at h
  generalize a.data.toList = l at *
  induction l with
  | nil => rfl
  | cons b l ih => rw [List.cons_append, Lib.validD_cons b _ (h b (by simp))]; exact ih (fun x hx => h x (by simp [hx]))
theorem Vd.valid {a : ByteArray} (h : Vd a) : Lib.validD a.data.toList = true := by
  have := h []
  rw [List.append_nil] at this
  rw [this]; exact Lib.validD_nil
theorem hexT_asc (s : ByteArray) : Asc (hexT s) := by
  unfold Asc hexT strOfNums
  have key : ∀ l : List UInt8, ∀ b ∈ (hexL l).map (fun n => UInt8.ofNat n.toNat), b.toNat < 128 := by
    intro l
    induction l with
    | nil => simp [hexL]
    | cons x r ih =>
      intro b hb
      have hx := x.toNat_lt
      simp only [hexL, List.map_cons, List.mem_cons] at hb
      rcases hb with rfl | rfl | hb
      · have := hexD_asc ((x.toNat : Int) / 16); omega
      · have := hexD_asc ((x.toNat : Int) % 16); omega
      · exact ih b hb
  simpa using key s.data.toList
theorem escT_vd (n : Int) : Vd (escT n) := by
  have asc : ∀ l : List UInt8, (∀ b ∈ l, b.toNat < 128) → Vd ⟨l.toArray⟩ := fun l h => Vd.asc (by intro x hx; exact h x (by simpa using hx))
  by_cases hr : runeOk n
  · by_cases hn : n ≠ 34 ∧ n ≠ 92 ∧ n ≠ 8 ∧ n ≠ 9 ∧ n ≠ 10 ∧ n ≠ 12 ∧ n ≠ 13
    · by_cases h2 : n < 32
      · rw [escT_low n hr hn h2]; exact (asc [92, 117, 48, 48] (by decide)).app (Vd.asc (hexT_asc _))
      · rw [escT_high n hr hn h2, ← encN_str n hr]; intro r; rw [strOfNums_list]; exact valid_enc n hr r
    · have : n = 34 ∨ n = 92 ∨ n = 8 ∨ n = 9 ∨ n = 10 ∨ n = 12 ∨ n = 13 := by omega
      rcases this with rfl | rfl | rfl | rfl | rfl | rfl | rfl
      · rw [escT_34]; exact asc [92, 34] (by decide)
      · rw [escT_92]; exact asc [92, 92] (by decide)
      · rw [escT_8]; exact asc [92, 98] (by decide)
      · rw [escT_9]; exact asc [92, 116] (by decide)
      · rw [escT_10]; exact asc [92, 110] (by decide)
      · rw [escT_12]; exact asc [92, 102] (by decide)
      · rw [escT_13]; exact asc [92, 114] (by decide)
  · rw [escT_no n hr]; exact Vd.asc nil_asc
theorem escF_vd (l : List Int) : ∀ j, Vd (escF l j) := by
  intro j
  induction j with
  | zero => intro r; rfl
  | succ j ih => rw [escF]; exact ih.app (escT_vd _)
theorem quoteT_vd (s : ByteArray) : Vd (quoteT s) := by
  unfold quoteT
  split
  · exact ((Vd.asc (one_asc 34 (by decide))).app (escF_vd _ _)).app (Vd.asc (one_asc 34 (by decide)))
  · exact Vd.asc nil_asc
theorem leafT_vd (k n x : Int) (s : ByteArray) : Vd (leafT k n x s) := by
  have asc : ∀ l : List UInt8, (∀ b ∈ l, b.toNat < 128) → Vd ⟨l.toArray⟩ := fun l h => Vd.asc (by intro x hx; exact h x (by simpa using hx))
  unfold leafT
  split
  · split
    · exact asc [116, 114, 117, 101] (by decide)
    · exact asc [102, 97, 108, 115, 101] (by decide)
  · split
    · exact Vd.asc (numT_asc _)
    · split
      · exact Vd.asc (decTx_asc _ _)
      · split
        · unfold fltTx
          split
          · exact Vd.asc (decTx_asc _ _)
          · exact Vd.asc nil_asc
        · split
          · exact quoteT_vd s
          · exact asc [110, 117, 108, 108] (by decide)
theorem sepT_vd (mp : Bool) (i : Nat) : Vd (sepT mp i) := by
  unfold sepT
  split
  · exact Vd.asc nil_asc
  · split
    · exact Vd.asc (one_asc 58 (by decide))
    · exact Vd.asc (one_asc 44 (by decide))
theorem writeT_vd : ∀ t : T, Vd (writeT t) := by
  apply T.ind
  intro k n x s l ih
  have key : ∀ (mp : Bool) (r : List T) (i : Nat), (∀ t ∈ r, t ∈ l) → Vd (writesT mp i r) := by
    intro mp r
    induction r with
    | nil => intro i _; exact Vd.asc nil_asc
    | cons t r ihr =>
      intro i hm
      rw [writesT]
      exact ((sepT_vd mp i).app (ih t (hm t (List.mem_cons_self ..)))).app (ihr (i + 1) (fun t ht => hm t (List.mem_cons_of_mem _ ht)))
  rw [writeT]
  split
  · exact ((Vd.asc (one_asc 91 (by decide))).app (key false l 0 (fun _ h => h))).app (Vd.asc (one_asc 93 (by decide)))
  · split
    · exact ((Vd.asc (one_asc 123 (by decide))).app (key true l 0 (fun _ h => h))).app (Vd.asc (one_asc 125 (by decide)))
    · exact leafT_vd _ _ _ _
theorem writeX_valid (t : T) : Lib.validD (writeX t).data.toList = true := by
  unfold writeX
  split
  · exact (writeT_vd t).valid
  · exact Lib.validD_nil
mutual
def nuT : T → T
  | .mk k n x s l => if k = 11 then nuH l else if k = 9 ∨ k = 10 then lastT (.mk k 0 0 ⟨#[]⟩ (nuL (decide (k = 10)) true l)) else lT 1 (.mk k n x s [])
def nuH : List T → T
  | [] => zT
  | t :: _ => nuT t
def nuL (m : Bool) : Bool → List T → List T
  | _, [] => []
  | p, t :: r => (if (m && p) = true then (if t.k = 7 then t else .mk 7 0 0 (writeX (nuT t)) []) else nuT t) :: nuL m (!p) r
end
def nfT (t : T) : T := if t.k = 7 ∨ allB ownB t = false then t else .mk 7 0 0 (writeX (nuT t)) []
def nuE (m p : Bool) (t : T) : T := if (m && p) = true then (if t.k = 7 then t else .mk 7 0 0 (writeX (nuT t)) []) else nuT t
theorem nuE_name {t : T} (h : allB ownB t = true) : nuE true true t = nfT t := by
  unfold nuE nfT
  rw [if_pos (show (true && true) = true from rfl)]
  by_cases h7 : t.k = 7
  · rw [if_pos h7, if_pos (Or.inl h7)]
  · rw [if_neg h7, if_neg (by rw [h]; simp [h7])]
theorem nuL_len (m : Bool) : ∀ (l : List T) (p : Bool), (nuL m p l).length = l.length := by
  intro l
  induction l with
  | nil => intro p; rfl
  | cons t r ih => intro p; rw [nuL, List.length_cons, List.length_cons, ih]
theorem nuL_succ (m : Bool) : ∀ (l : List T) (p : Bool) (j : Nat) (h : j < l.length), nuL m p (l.take (j + 1)) = nuL m p (l.take j) ++ [nuE m (if j % 2 = 0 then p else !p) l[j]] := by
  intro l
  induction l with
  | nil => intro p j h; simp at h
  | cons t r ih =>
    intro p j h
    cases j with
    | zero => rw [List.take_succ_cons, List.take_zero, List.take_zero, nuL, nuL, nuL]; rfl
    | succ j =>
      rw [List.take_succ_cons, List.take_succ_cons, nuL, nuL, ih (!p) j (by simpa using h), List.cons_append]
      congr 3
      have e : (if j % 2 = 0 then !p else !!p) = (if (j + 1) % 2 = 0 then p else !p) := by
        by_cases hj : j % 2 = 0
        · rw [if_pos hj, if_neg (by omega)]
        · rw [if_neg hj, if_pos (by omega), Bool.not_not]
      rw [e]; rfl
theorem nuL_get (m : Bool) (l : List T) (p : Bool) (j : Nat) (h : j < l.length) : (nuL m p l)[j]'(by rw [nuL_len]; exact h) = nuE m (if j % 2 = 0 then p else !p) l[j] := by
  have h1 := nuL_succ m l p j h
  have h2 : (nuL m p (l.take (j + 1)))[j]? = some (nuE m (if j % 2 = 0 then p else !p) l[j]) := by
    rw [h1, List.getElem?_append_right (by rw [nuL_len, List.length_take]; omega), nuL_len, List.length_take, Nat.min_eq_left (by omega), Nat.sub_self]; rfl
  have h3 : ∀ (l : List T) (p : Bool) (i j : Nat), j < i → (nuL m p (l.take i))[j]? = (nuL m p l)[j]? := by
    intro l
    induction l with
    | nil => intro p i j _; rw [List.take_nil]
    | cons t r ih =>
      intro p i j hij
      obtain ⟨i, rfl⟩ : ∃ i', i = i' + 1 := ⟨i - 1, by omega⟩
      rw [List.take_succ_cons, nuL, nuL]
      cases j with
      | zero => rfl
      | succ j => rw [List.getElem?_cons_succ, List.getElem?_cons_succ]; exact ih _ _ _ (by omega)
  rw [h3 l p (j + 1) j (by omega), List.getElem?_eq_getElem (by rw [nuL_len]; exact h)] at h2
  exact Option.some.inj h2
theorem nuL_mem {m p : Bool} {l : List T} {u : T} (h : u ∈ nuL m p l) : ∃ t ∈ l, u = nuE m true t ∨ u = nuE m false t := by
  obtain ⟨i, hi, rfl⟩ := mem_get h
  rw [nuL_len] at hi
  refine ⟨l[i], List.getElem_mem hi, ?_⟩
  rw [nuL_get m l p i hi]
  cases (if i % 2 = 0 then p else !p)
  · exact Or.inr rfl
  · exact Or.inl rfl
theorem own_text {s : ByteArray} (h : Lib.validD s.data.toList = true) : allB ownB (.mk 7 0 0 s []) = true := own_leaf _ _ _ _ ((own7 _ _ _ _).2 ⟨rfl, rfl, rfl, h⟩)
theorem fit_text (s : ByteArray) : allB fitTB (.mk 7 0 0 s []) = true := by
  rw [allB_eq, fitTB_yes (by simp [T.k])]; rfl
theorem fit_leaf {k n x : Int} {s : ByteArray} (h : k = 1 ∨ k = 2 ∨ k = 3 ∨ k = 6 ∨ k = 7) : allB fitTB (.mk k n x s []) = true := by
  rw [allB_eq, fitTB_yes (by simp only [T.k]; omega)]; rfl
theorem lT1_ok {k n x : Int} {s : ByteArray} (h : ownQ k n x s 0) (hk : k < 9) : allB ownB (lT 1 (.mk k n x s [])) = true ∧ allB fitTB (lT 1 (.mk k n x s [])) = true ∧ (lT 1 (.mk k n x s [])).l = [] := by
  refine ⟨lT_own 1 _ (own_leaf _ _ _ _ h), ?_, ?_⟩
  · unfold lT leafW
    show allB fitTB (if (k = 3 ∧ (1 : Int) = 4) ∨ (k = 6 ∧ 2 ≤ (1 : Int) ∧ (1 : Int) ≤ 4) then nearW n x else if k = 4 ∧ (1 : Int) = 1 then (numV (fltDecD n x), 1) else if k = 5 ∧ ((1 : Int) = 1 ∨ (1 : Int) = 4) then (.mk 1 0 0 ⟨#[]⟩ [], 4) else if k = 8 ∧ ((1 : Int) = 1 ∨ (1 : Int) = 4) then (.mk 7 0 0 (hexT s) [], 5) else (.mk k n x s [], 0)).1 = true
    rw [if_neg (by omega)]
    by_cases h4 : k = 4
    · rw [if_pos ⟨h4, rfl⟩]
      unfold numV
      split
      · exact fit_leaf (by simp)
      · exact fit_leaf (by simp)
    rw [if_neg (by omega)]
    by_cases h5 : k = 5
    · rw [if_pos ⟨h5, Or.inl rfl⟩]; exact fit_leaf (by simp)
    rw [if_neg (by omega)]
    by_cases h8 : k = 8
    · rw [if_pos ⟨h8, Or.inl rfl⟩]; exact fit_leaf (by simp)
    rw [if_neg (by omega)]
    refine fit_leaf ?_
    have := own_kinds h
    omega
  · rcases lT_l 1 (.mk k n x s []) with h | h
    · exact h
    · exact h
theorem onceT_nil {t : T} (h : t.l = []) : onceT t = t := by
  obtain ⟨k, n, x, s, l⟩ := t
  obtain rfl : l = [] := h
  rw [onceT, onceTs]
  split
  · rfl
  · rfl
theorem onceTs_id {l : List T} (h : ∀ t ∈ l, onceT t = t) : onceTs l = l := by
  rw [onceTs_map]
  exact (List.map_congr_left h).trans (List.map_id' l)
theorem allB_mk {p : T → Bool} {k n x : Int} {s : ByteArray} {l : List T} (h : p (.mk k n x s l) = true) (hl : ∀ t ∈ l, allB p t = true) : allB p (.mk k n x s l) = true := by
  rw [allB_eq, h, Bool.true_and, List.all_eq_true]; exact hl
theorem nuT_ok : ∀ t : T, allB ownB t = true → allB ownB (nuT t) = true ∧ allB fitTB (nuT t) = true ∧ onceT (nuT t) = nuT t := by
  apply T.ind
  intro k n x s l ih h
  have hq := own_of h
  rw [allB_eq, Bool.and_eq_true, List.all_eq_true] at h
  have hch := h.2
  simp only [T.l] at hch
  rw [nuT]
  by_cases k11 : k = 11
  · subst k11
    rw [if_pos rfl]
    obtain ⟨h1, h2, h3, h4⟩ := (own11 _ _ _ _).1 hq
    obtain ⟨t, rfl⟩ : ∃ t, l = [t] := List.length_eq_one_iff.1 h4
    rw [nuH]
    exact ih t (by simp) (hch t (by simp))
  rw [if_neg k11]
  by_cases k9 : k = 9 ∨ k = 10
  · rw [if_pos k9]
    have hel : ∀ u ∈ nuL (decide (k = 10)) true l, allB ownB u = true ∧ allB fitTB u = true ∧ onceT u = u := by
      intro u hu
      obtain ⟨t, ht, hh⟩ := nuL_mem hu
      obtain ⟨i1, i2, i3⟩ := ih t ht (hch t ht)
      have key : ∀ p, allB ownB (nuE (decide (k = 10)) p t) = true ∧ allB fitTB (nuE (decide (k = 10)) p t) = true ∧ onceT (nuE (decide (k = 10)) p t) = nuE (decide (k = 10)) p t := by
        intro p
        unfold nuE
        split
        · split
          · rename_i h7
            obtain ⟨k', n', x', s', l'⟩ := t
            obtain rfl : k' = 7 := h7
            have hq2 := own_of (hch _ ht)
            obtain ⟨_, e2, _⟩ := (own7 _ _ _ _).1 hq2
            obtain rfl := List.length_eq_zero_iff.1 e2
            exact ⟨hch _ ht, fit_leaf (by simp), onceT_nil rfl⟩
          · exact ⟨own_text (writeX_valid _), fit_text _, onceT_nil rfl⟩
        · exact ⟨i1, i2, i3⟩
      rcases hh with rfl | rfl
      · exact key true
      · exact key false
    have hlen := nuL_len (decide (k = 10)) l true
    rcases k9 with rfl | rfl
    · rw [lastT_list (by decide)]
      refine ⟨allB_mk (decide_eq_true ((own9 _ _ _ _).2 ⟨dv_nil, rfl, rfl⟩)) (fun u hu => (hel u hu).1), allB_mk (fitTB_yes (by simp [T.k])) (fun u hu => (hel u hu).2.1), ?_⟩
      rw [onceT, if_neg (by simp), onceTs_id (fun u hu => (hel u hu).2.2)]
    · obtain ⟨h1, h2, h3, h4⟩ := (own10 _ _ _ _).1 hq
      have hev : (nuL (decide ((10 : Int) = 10)) true l).length % 2 = 0 := by rw [hlen]; exact h4
      have htx : ∀ x ∈ evs (nuL (decide ((10 : Int) = 10)) true l), x.k = 7 := by
        refine evs_text (fun i hi hp => ?_)
        rw [nuL_get _ l true i (by rw [hlen] at hi; exact hi), if_pos hp]
        unfold nuE
        rw [if_pos (show (decide ((10 : Int) = 10) && true) = true from rfl)]
        split
        · assumption
        · rfl
      rw [lastT_map hev]
      generalize nuL (decide ((10 : Int) = 10)) true l = L at *
      have hmem := lastR_mem L
      have hR := lastR_even L
      refine ⟨allB_mk (decide_eq_true ((own10 _ _ _ _).2 ⟨dv_nil, rfl, rfl, hR⟩)) (fun u hu => (hel u (hmem u hu)).1), allB_mk ?_ (fun u hu => (hel u (hmem u hu)).2.1), ?_⟩
      · rw [fitTB_map rfl]
        have en : namesT (.mk 10 0 0 ⟨#[]⟩ (lastR L)) = evs (lastR L) := (if_pos rfl).trans (evN_all _)
        unfold textNm onceB
        rw [en, Bool.and_eq_true]
        refine ⟨onceN_of (lastR_nodup L) _ (Nat.le_refl _), ?_⟩
        rw [List.all_eq_true]
        exact fun x hx => decide_eq_true (htx x (lastR_evs L x hx))
      · rw [onceT, if_pos ⟨rfl, hR⟩, onceTs_id (fun u hu => (hel u (hmem u hu)).2.2), lastP_R hR, lastR_idem]
  · rw [if_neg k9]
    have hkk := own_kinds hq
    have hl0 : l = [] := by
      have : ¬ (9 ≤ k) := by omega
      apply List.length_eq_zero_iff.1
      rcases hkk with rfl | rfl | rfl | rfl | rfl | rfl | rfl | rfl | rfl | rfl | rfl
      · exact ((own1 _ _ _ _).1 hq).2.2.1
      · exact ((own2 _ _ _ _).1 hq).2.2.1
      · exact ((own3 _ _ _ _).1 hq).2.2.1
      · exact ((own4 _ _ _ _).1 hq).2.1
      · exact ((own5 _ _ _ _).1 hq).2.2.1
      · exact ((own6 _ _ _ _).1 hq).2.1
      · exact ((own7 _ _ _ _).1 hq).2.1
      · exact ((own8 _ _ _ _).1 hq).2.1
      all_goals omega
    subst hl0
    obtain ⟨a1, a2, a3⟩ := lT1_ok hq (by omega)
    exact ⟨a1, a2, onceT_nil a3⟩
theorem nuT_write {t : T} (h : allB ownB t = true) : writeX (nuT t) = writeT (nuT t) := by
  obtain ⟨h1, h2, _⟩ := nuT_ok t h
  unfold writeX
  rw [h1, h2]; rfl
theorem nfT_ok {t : T} (h : allB ownB t = true) : (nfT t).k = 7 ∧ allB ownB (nfT t) = true ∧ nfT (nfT t) = nfT t ∧ (t.k = 7 → nfT t = t) := by
  have e : nfT t = if t.k = 7 then t else .mk 7 0 0 (writeX (nuT t)) [] := by
    unfold nfT
    by_cases h7 : t.k = 7
    · rw [if_pos h7, if_pos (Or.inl h7)]
    · rw [if_neg h7, if_neg (by rw [h]; simp [h7])]
  have e7 : ∀ u : T, u.k = 7 → nfT u = u := fun u hu => if_pos (Or.inl hu)
  by_cases h7 : t.k = 7
  · rw [e, if_pos h7]; exact ⟨h7, h, e7 t h7, fun _ => rfl⟩
  · rw [e, if_neg h7]; exact ⟨rfl, own_text (writeX_valid _), e7 _ rfl, fun hh => absurd hh h7⟩
theorem padZ_max (f m : Nat) : ∀ s : ByteArray, (padZ f m s).size ≤ max s.size (m + 1) := by
  induction f with
  | zero => intro s; simp [padZ]; omega
  | succ f ih =>
    intro s
    rw [padZ]
    split
    · have := ih (⟨#[48]⟩ ++ s)
      rw [ByteArray.size_append] at this
      have h1 : (⟨#[48]⟩ : ByteArray).size = 1 := rfl
      omega
    · omega
theorem decTx_small (n : Int) (m : Nat) : (decTx n m).size ≤ 24 := by
  unfold decTx
  by_cases h : decOk n (-(m : Int))
  · have hd : digN n ≤ 20 := by
      unfold decOk at h
      rcases h with ⟨_, h1, h2⟩ | ⟨_, _, h1, _⟩
      · exact digN_le n ⟨by omega, by omega⟩
      · omega
    have hm : m ≤ 16 := by unfold decOk at h; omega
    have h1 := digT_size n
    have h2 := padZ_max 60 m (digT n)
    have z1 : (⟨#[45]⟩ : ByteArray).size = 1 := rfl
    have z2 : (⟨#[46]⟩ : ByteArray).size = 1 := rfl
    rw [if_neg (fun hn => hn h)]
    by_cases h0 : m = 0
    · rw [if_pos h0]
      by_cases hn : n < 0
      · rw [numT_neg hn, ByteArray.size_append]; omega
      · rw [numT_pos hn]; omega
    · rw [if_neg h0]
      unfold decBody
      split
      · simp only [ByteArray.size_append, ByteArray.size_extract]; omega
      · simp only [ByteArray.size_append, ByteArray.size_extract]; omega
  · rw [if_pos h]; exact Nat.zero_le _
theorem leafT_small {k n x : Int} {s : ByteArray} (h : k = 3 → I64 n) (h4 : k ≠ 4) : (leafT k n x s).size ≤ 26 + 12 * s.size := by
  unfold leafT
  split
  · split
    · exact Nat.le_trans (show (4 : Nat) ≤ 26 by omega) (Nat.le_add_right _ _)
    · exact Nat.le_trans (show (5 : Nat) ≤ 26 by omega) (Nat.le_add_right _ _)
  · split
    · rename_i h3; have := numT_size (h h3); omega
    · split
      · have := decTx_small n (-x).toNat; omega
      · split
        · have := quoteT_size s; omega
        · exact Nat.le_trans (show (4 : Nat) ≤ 26 by omega) (Nat.le_add_right _ _)
theorem fit_k4 {t : T} (h : fitTB t = true) : t.k ≠ 4 := by
  unfold fitTB at h
  simp only [Bool.or_eq_true, Bool.and_eq_true, decide_eq_true_eq] at h
  omega
theorem writeT_small : ∀ t : T, allB ownB t = true → allB fitTB t = true → (writeT t).size + 9 ≤ 40 * (1 + T.sz t) := by
  intro t
  induction t using T.ind with
  | h k n x s l ih =>
    intro h hf
    have hq := own_of h
    rw [allB_eq, Bool.and_eq_true, List.all_eq_true] at h hf
    have h2 := h.2; have hf2 := hf.2
    simp only [T.l] at h2 hf2
    have h4 := fit_k4 hf.1
    simp only [T.k] at h4
    have key : ∀ (mp : Bool) (r : List T) (i : Nat), (∀ t ∈ r, t ∈ l) → (writesT mp i r).size ≤ 40 * T.szL r := by
      intro mp r
      induction r with
      | nil => intro i _; exact Nat.zero_le _
      | cons t r ihr =>
        intro i hm
        have a1 := ihr (i + 1) (fun t ht => hm t (List.mem_cons_of_mem _ ht))
        have a2 := ih t (hm t (List.mem_cons_self ..)) (h2 t (hm t (List.mem_cons_self ..))) (hf2 t (hm t (List.mem_cons_self ..)))
        have a3 := sepT_size mp i
        simp only [writesT, ByteArray.size_append, T.szL]
        omega
    have e1 := key false l 0 (fun _ h => h)
    have e2 := key true l 0 (fun _ h => h)
    have e3 := leafT_small (s := s) (x := x) (n := n) (k := k) (fun h3 => by subst h3; obtain ⟨_, _, _, h5, h6⟩ := (own3 _ _ _ _).1 hq; exact ⟨by omega, by omega⟩) h4
    have z1 : (⟨#[91]⟩ : ByteArray).size = 1 := rfl
    have z2 : (⟨#[93]⟩ : ByteArray).size = 1 := rfl
    have z3 : (⟨#[123]⟩ : ByteArray).size = 1 := rfl
    have z4 : (⟨#[125]⟩ : ByteArray).size = 1 := rfl
    rw [writeT, sz_of]
    split
    · rw [ByteArray.size_append, ByteArray.size_append]; omega
    · split
      · rw [ByteArray.size_append, ByteArray.size_append]; omega
      · omega
theorem nuX_size {t : T} (h : allB ownB t = true) : (writeX (nuT t)).size + 9 ≤ 40 * (1 + T.sz (nuT t)) := by
  rw [nuT_write h]
  obtain ⟨h1, h2, _⟩ := nuT_ok t h
  exact writeT_small _ h1 h2
def drB : Nat → Nat
  | 0 => 0
  | d + 1 => 12 + 6 * (1 + drB d)
theorem dr_sz : ∀ t : T, ∀ D, AllT drQ t → T.depth t ≤ D → T.sz t ≤ drB D := by
  apply T.ind
  intro k n x s l ih D h hd
  rw [AllT_iff] at h
  obtain ⟨⟨_, hs, hl, _⟩, hall⟩ := h
  simp only [T.s, T.l] at hs hl hall
  cases D with
  | zero => simp [T.depth] at hd
  | succ D =>
    simp only [T.depth] at hd
    have key : ∀ r : List T, (∀ u ∈ r, u ∈ l) → T.szL r ≤ r.length * (1 + drB D) := by
      intro r
      induction r with
      | nil => intro _; simp [T.szL]
      | cons u r ihr =>
        intro hm
        have hu := hm u (by simp)
        obtain ⟨i, hi, he⟩ := List.getElem_of_mem hu
        have h1 := ih u hu D (hall u hu) (by have := T.depth_get l i hi; rw [he] at this; omega)
        have h2 := ihr (fun v hv => hm v (by simp [hv]))
        simp only [T.szL, List.length_cons, Nat.succ_mul]
        omega
    have h1 := key l (fun _ h => h)
    have h2 : l.length * (1 + drB D) ≤ 6 * (1 + drB D) := Nat.mul_le_mul_right _ hl
    simp only [T.sz, drB]; omega
theorem lT1_sz (k n x : Int) (s : ByteArray) : T.sz (lT 1 (.mk k n x s [])) ≤ 2 * s.size := by
  show T.sz (if (k = 3 ∧ (1 : Int) = 4) ∨ (k = 6 ∧ 2 ≤ (1 : Int) ∧ (1 : Int) ≤ 4) then nearW n x else if k = 4 ∧ (1 : Int) = 1 then (numV (fltDecD n x), 1) else if k = 5 ∧ ((1 : Int) = 1 ∨ (1 : Int) = 4) then (.mk 1 0 0 ⟨#[]⟩ [], 4) else if k = 8 ∧ ((1 : Int) = 1 ∨ (1 : Int) = 4) then (.mk 7 0 0 (hexT s) [], 5) else (.mk k n x s [], 0)).1 ≤ _
  have z0 : (⟨#[]⟩ : ByteArray).size = 0 := rfl
  rw [if_neg (by omega)]
  split
  · unfold numV
    split
    · rw [sz_of]; simp [T.szL, z0]
    · rw [sz_of]; simp [T.szL, z0]
  · split
    · rw [sz_of]; simp [T.szL, z0]
    · split
      · rw [sz_of, hexT_size]; simp [T.szL]
      · rw [sz_of]; simp only [T.szL]; omega
theorem digit_size {n : Int} (h0 : 0 ≤ n) (h3 : n ≤ 3) : (numT n).size = 1 := by
  rw [numT_pos (by omega), digT_size]
  obtain rfl | rfl | rfl | rfl : n = 0 ∨ n = 1 ∨ n = 2 ∨ n = 3 := by omega
  all_goals (unfold digN; rw [nDigits_eq]; rfl)
theorem nuL_szL (m : Bool) (K : Nat) : ∀ (l : List T) (p : Bool), (∀ j (h : j < l.length), 1 + T.sz (nuE m (if j % 2 = 0 then p else !p) l[j]) ≤ K * (1 + T.sz l[j])) → T.szL (nuL m p l) ≤ K * T.szL l := by
  intro l
  induction l with
  | nil => intro p _; simp [nuL, T.szL]
  | cons t r ih =>
    intro p h
    have h0 := h 0 (by simp)
    have h1 := ih (!p) (fun j hj => by
      have := h (j + 1) (by simpa using hj)
      have e : (if j % 2 = 0 then !p else !!p) = (if (j + 1) % 2 = 0 then p else !p) := by
        by_cases hj : j % 2 = 0
        · rw [if_pos hj, if_neg (by omega)]
        · rw [if_neg hj, if_pos (by omega), Bool.not_not]
      rw [e]; exact this)
    rw [nuL]
    simp only [T.szL, Nat.mul_add]
    have e0 : (if (0 : Nat) % 2 = 0 then p else !p) = p := if_pos rfl
    rw [e0] at h0
    simp only [List.getElem_cons_zero, Nat.mul_add] at h0
    unfold nuE at h0
    omega
theorem lastT_sz (t : T) : T.sz (lastT t) ≤ T.sz t := by
  obtain ⟨k, n, x, s, l⟩ := t
  unfold lastT
  split
  · rename_i h
    rw [sz_of, sz_of, lastP_R h.2]
    have := lastR_szL l
    show s.size + T.szL (lastR l) ≤ _
    omega
  · exact Nat.le_refl _
theorem nuT_dr : ∀ t : T, AllT drQ t → T.sz (nuT t) ≤ 3 * T.sz t := by
  apply T.ind
  intro k n x s l ih h
  have hown := AllT.own h
  have hq := own_of hown
  rw [AllT_iff] at h
  obtain ⟨⟨_, hs, hl, hnm⟩, hall⟩ := h
  simp only [T.s, T.l, T.k] at hs hl hall hnm
  rw [nuT]
  by_cases k11 : k = 11
  · subst k11
    rw [if_pos rfl]
    obtain ⟨h1, h2, h3, h4⟩ := (own11 _ _ _ _).1 hq
    obtain ⟨t, rfl⟩ : ∃ t, l = [t] := List.length_eq_one_iff.1 h4
    rw [nuH, sz_of]
    have := ih t (by simp) (hall t (by simp))
    simp only [T.szL]; omega
  rw [if_neg k11]
  by_cases k9 : k = 9 ∨ k = 10
  · rw [if_pos k9]
    refine Nat.le_trans (lastT_sz _) ?_
    rw [sz_of, sz_of]
    have z0 : (⟨#[]⟩ : ByteArray).size = 0 := rfl
    have := nuL_szL (decide (k = 10)) 3 l true (fun j hj => by
      have hi := ih l[j] (List.getElem_mem hj) (hall _ (List.getElem_mem hj))
      by_cases hev : j % 2 = 0
      · rw [if_pos hev]
        unfold nuE
        split
        · rename_i hmp
          simp only [Bool.and_true, decide_eq_true_eq] at hmp
          split
          · omega
          · rename_i h7
            have hn := hnm hmp j hj hev
            have ho := AllT.own (hall _ (List.getElem_mem hj))
            rw [nuT_write ho]
            generalize l[j] = u at *
            obtain ⟨u1, u2, hu⟩ := hn
            rcases hu with ⟨u3, u4, u5, u6⟩ | ⟨u3, _⟩
            · obtain ⟨k', n', x', s', l'⟩ := u
              simp only [T.k, T.n, T.x, T.s, T.l] at u1 u2 u3 u4 u5 u6
              subst u1 u2 u3 u6
              have e : nuT (.mk 3 n' 0 ⟨#[]⟩ []) = .mk 3 n' 0 ⟨#[]⟩ [] := by
                rw [nuT, if_neg (by decide), if_neg (by decide)]; rfl
              rw [e, sz_of, sz_of]
              have e2 : writeT (.mk 3 n' 0 ⟨#[]⟩ []) = numT n' := by
                rw [writeT, if_neg (by decide), if_neg (by decide)]; rfl
              rw [e2, digit_size u4 u5]
              simp only [T.szL]; omega
            · exact absurd u3 h7
        · omega
      · rw [if_neg hev]
        unfold nuE
        rw [if_neg (by simp)]
        omega)
    omega
  · rw [if_neg k9, sz_of]
    have := lT1_sz k n x s
    omega
def NuOk (t : T) : Prop := AllT (fun u => T.sz u ≤ 1048576 ∧ T.sz (nuT u) ≤ 1048576) t
theorem NuOk.child {t u : T} (h : NuOk t) (hu : u ∈ t.l) : NuOk u := ((AllT_iff _ _).1 h).2 u hu
theorem NuOk.top {t : T} (h : NuOk t) : T.sz t ≤ 1048576 ∧ T.sz (nuT t) ≤ 1048576 := ((AllT_iff _ _).1 h).1
theorem szL_le {K : Nat} : ∀ {l : List T}, (∀ u ∈ l, T.sz u ≤ K) → T.szL l ≤ l.length * (1 + K) := by
  intro l
  induction l with
  | nil => intro _; simp [T.szL]
  | cons u r ih =>
    intro h
    have h1 := h u (by simp)
    have h2 := ih (fun v hv => h v (by simp [hv]))
    simp only [T.szL, List.length_cons, Nat.succ_mul]
    omega
theorem nuOk_dr : ∀ t : T, ∀ D, D ≤ 4 → AllT drQ t → T.depth t ≤ D → NuOk t := by
  apply T.ind
  intro k n x s l ih D hD h hd
  have h1 := dr_sz _ D h hd
  have h2 := nuT_dr _ h
  have h3 : drB D ≤ 4662 := by
    have : ∀ d : Fin 5, drB d ≤ 4662 := by decide
    exact this ⟨D, by omega⟩
  have hall := ((AllT_iff _ _).1 h).2
  refine (AllT_iff _ _).2 ⟨⟨by omega, by omega⟩, fun u hu => ?_⟩
  obtain ⟨i, hi, he⟩ := List.getElem_of_mem (show u ∈ l from hu)
  simp only [T.depth] at hd
  exact ih u hu D hD (hall u hu) (by have := T.depth_get l i hi; rw [he] at this; omega)
theorem nuOk_any {t : T} (ho : allB ownB t = true) (hs : t.s.size ≤ 12) (hl : t.l.length ≤ 7) (hch : ∀ u ∈ t.l, AllT drQ u ∧ T.depth u ≤ 3) : NuOk t := by
  obtain ⟨k, n, x, s, l⟩ := t
  have hq := own_of ho
  simp only [T.s, T.l] at hs hl hch
  have hb : drB 3 = 774 := by decide
  have h1 : ∀ u ∈ l, T.sz u ≤ 774 := fun u hu => by have := dr_sz u 3 (hch u hu).1 (hch u hu).2; omega
  have h2 := szL_le h1
  have h3 : ∀ u ∈ l, T.sz (nuT u) ≤ 2322 := fun u hu => by have := nuT_dr u (hch u hu).1; have := h1 u hu; omega
  have hz : T.sz (.mk k n x s l) ≤ 1048576 := by rw [sz_of]; omega
  refine (AllT_iff _ _).2 ⟨⟨hz, ?_⟩, fun u hu => nuOk_dr u 3 (by decide) (hch u hu).1 (hch u hu).2⟩
  rw [nuT]
  by_cases k11 : k = 11
  · subst k11
    rw [if_pos rfl]
    obtain ⟨_, _, _, h4⟩ := (own11 _ _ _ _).1 hq
    obtain ⟨t, rfl⟩ : ∃ t, l = [t] := List.length_eq_one_iff.1 h4
    rw [nuH]
    have := h3 t (by simp)
    omega
  rw [if_neg k11]
  by_cases k9 : k = 9 ∨ k = 10
  · rw [if_pos k9]
    refine Nat.le_trans (lastT_sz _) ?_
    rw [sz_of]
    have z0 : (⟨#[]⟩ : ByteArray).size = 0 := rfl
    have h4 : ∀ u ∈ nuL (decide (k = 10)) true l, T.sz u ≤ 93000 := by
      intro u hu
      obtain ⟨t, ht, hh⟩ := nuL_mem hu
      have a1 := h1 t ht
      have a2 := h3 t ht
      have a3 := nuX_size (AllT.own (hch t ht).1)
      have key : ∀ p, T.sz (nuE (decide (k = 10)) p t) ≤ 93000 := by
        intro p
        unfold nuE
        split
        · split
          · omega
          · rw [sz_of]; simp only [T.szL]; omega
        · omega
      rcases hh with rfl | rfl
      · exact key true
      · exact key false
    have h5 := szL_le h4
    rw [nuL_len] at h5
    omega
  · rw [if_neg k9]
    have := lT1_sz k n x s
    omega
theorem count_pos' (t : T) : 1 ≤ T.count t := by cases t; simp [T.count]
theorem nuL_countL (m : Bool) : ∀ (l : List T) (p : Bool), (∀ u ∈ l, T.count (nuT u) ≤ T.count u) → T.countL (nuL m p l) ≤ T.countL l := by
  intro l
  induction l with
  | nil => intro p _; rw [nuL]; exact Nat.le_refl _
  | cons t r ih =>
    intro p h
    have h1 := ih (!p) (fun u hu => h u (by simp [hu]))
    have h2 := h t (by simp)
    have h3 := count_pos' t
    rw [nuL]
    simp only [T.countL]
    have h4 : T.count (if (m && p) = true then (if t.k = 7 then t else .mk 7 0 0 (writeX (nuT t)) []) else nuT t) ≤ T.count t := by
      split
      · split
        · exact Nat.le_refl _
        · simpa [T.count, T.countL] using h3
      · exact h2
    omega
theorem nuT_count : ∀ t : T, T.count (nuT t) ≤ T.count t := by
  apply T.ind
  intro k n x s l ih
  rw [nuT]
  split
  · cases l with
    | nil => rw [nuH]; simp [zT, T.count, T.countL]
    | cons t r => rw [nuH]; have := ih t (by simp); simp only [T.count, T.countL]; omega
  · split
    · have h1 := nuL_countL (decide (k = 10)) l true ih
      unfold lastT
      split
      · have h2 := lastP_count (nuL (decide (k = 10)) true l)
        simp only [T.count, T.l]; omega
      · simp only [T.count]; omega
    · have h : (lT 1 (.mk k n x s [])).l = [] := by rcases lT_l 1 (.mk k n x s []) with h | h <;> exact h
      generalize lT 1 (.mk k n x s []) = v at *
      obtain ⟨k', n', x', s', l'⟩ := v
      obtain rfl : l' = [] := h
      simp only [T.count, T.countL]; omega
theorem lastT_wf {t : T} (h : Wf t) : Wf (lastT t) := by
  unfold lastT
  split
  · exact h
  · exact h
theorem nuL_once (m p : Bool) {l : List T} (h : ∀ u ∈ l, allB ownB u = true) : onceTs (nuL m p l) = nuL m p l := by
  refine onceTs_id (fun u hu => ?_)
  obtain ⟨t, ht, hh⟩ := nuL_mem hu
  have key : ∀ q, onceT (nuE m q t) = nuE m q t := by
    intro q
    unfold nuE
    split
    · split
      · rename_i h7
        obtain ⟨k', n', x', s', l'⟩ := t
        obtain rfl : k' = 7 := h7
        obtain ⟨_, e2, _⟩ := (own7 _ _ _ _).1 (own_of (h _ ht))
        obtain rfl := List.length_eq_zero_iff.1 e2
        exact onceT_nil rfl
      · exact onceT_nil rfl
    · exact (nuT_ok t (h t ht)).2.2
  rcases hh with rfl | rfl
  · exact key true
  · exact key false
end Go.Proofs.YtggdenkmohnijaaGreatDoor
