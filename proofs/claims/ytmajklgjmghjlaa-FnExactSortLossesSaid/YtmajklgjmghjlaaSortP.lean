/- Contracts and lemmas for the proofs of this seat: SortP. No condition beyond those stated. -/
import Derived.Test.YtmajklgjmghjlaaRows
import Derived.WalkKit
import Derived.ProofKit
import Derived.OpenShut
import Derived.Handy
import Derived.Lib.Hide
import Derived.Lib.SmallJoins
import Derived.Test.YtmajklgjmghjlaaBase
import Derived.Test.YtmajklgjmghjlaaGen
import Derived.Test.YtmajklgjmghjlaaPath1
import Derived.Test.YtmajklgjmghjlaaPath2
namespace Go.Proofs.Ytmajklgjmghjlaa
open Go.ChangeShapes Go.WideShapes Go.ChangeAt Go.RowKit Go.Joins
set_option linter.unusedVariables false
set_option maxRecDepth 100000
theorem lessP_trans : ∀ p q r : List St, lessP p q = true → lessP q r = true → lessP p r = true := by
  intro p
  induction p with
  | nil =>
    intro q r h1 h2
    cases r with
    | nil => cases q <;> simp [lessP] at h1 h2
    | cons z c => rfl
  | cons x a ih =>
    intro q r h1 h2
    cases q with
    | nil => simp [lessP] at h1
    | cons y b =>
      cases r with
      | nil => simp [lessP] at h2
      | cons z c =>
        rw [lessP] at h1 h2 ⊢
        by_cases e1 : x = y
        · subst e1; rw [if_pos rfl] at h1
          by_cases e2 : x = z
          · subst e2; rw [if_pos rfl] at h2 ⊢; exact ih b c h1 h2
          · rw [if_neg e2] at h2 ⊢; exact h2
        · rw [if_neg e1] at h1
          by_cases e2 : y = z
          · subst e2; rw [if_neg e1]; exact h1
          · rw [if_neg e2] at h2
            obtain ⟨x1, x2⟩ := x; obtain ⟨y1, y2⟩ := y; obtain ⟨z1, z2⟩ := z
            simp only [Prod.mk.injEq, not_and, Bool.or_eq_true, Bool.and_eq_true, decide_eq_true_eq] at e1 e2 h1 h2 ⊢
            by_cases e3 : x1 = z1 ∧ x2 = z2
            · exfalso
              obtain ⟨rfl, rfl⟩ := e3
              rcases h1 with h1 | ⟨rfl, h1⟩
              · rcases h2 with h2 | ⟨rfl, h2⟩ <;> omega
              · rcases h2 with h2 | ⟨_, h2⟩
                · omega
                · exact e1 rfl (by rw [h1, h2])
            · rw [if_neg e3]
              simp only [Bool.or_eq_true, Bool.and_eq_true, decide_eq_true_eq]
              rcases h1 with h1 | ⟨rfl, h1⟩
              · rcases h2 with h2 | ⟨rfl, h2⟩ <;> exact Or.inl (by omega)
              · rcases h2 with h2 | ⟨rfl, h2⟩
                · exact Or.inl (by omega)
                · exact Or.inr ⟨rfl, h1⟩
/-- One loss stands not behind another. -/
def leL (x y : Lo) : Prop := lessL y x = false
theorem lessL_trans (x y z : Lo) (h1 : lessL x y = true) (h2 : lessL y z = true) : lessL x z = true := by
  unfold lessL at *
  by_cases e1 : x.2 = y.2
  · rw [if_pos e1] at h1
    by_cases e2 : y.2 = z.2
    · rw [if_pos e2] at h2; rw [if_pos (e1.trans e2)]
      simp only [decide_eq_true_eq] at *; omega
    · rw [if_neg e2] at h2; rw [if_neg (fun e => e2 (e1.symm.trans e)), e1]; exact h2
  · rw [if_neg e1] at h1
    by_cases e2 : y.2 = z.2
    · rw [if_neg (fun e => e1 (e.trans e2.symm)), ← e2]; exact h1
    · rw [if_neg e2] at h2
      have h3 := lessP_trans _ _ _ h1 h2
      by_cases e3 : x.2 = z.2
      · rw [e3] at h1; rw [lessP_asymm _ _ h1] at h2; cases h2
      · rw [if_neg e3]; exact h3
theorem lessL_asymm (x y : Lo) (h : lessL x y = true) : lessL y x = false := by
  unfold lessL at *
  by_cases e1 : x.2 = y.2
  · rw [if_pos e1] at h; rw [if_pos e1.symm]
    simp only [decide_eq_true_eq, decide_eq_false_iff_not] at *; omega
  · rw [if_neg e1] at h; rw [if_neg (fun e => e1 e.symm)]; exact lessP_asymm _ _ h
theorem leL_refl (x : Lo) : leL x x := by unfold leL lessL; simp
theorem leL_of_less {x y : Lo} (h : lessL x y = true) : leL x y := lessL_asymm _ _ h
theorem leL_antisymm {x y : Lo} (h1 : leL x y) (h2 : leL y x) : x = y := by
  unfold leL lessL at *
  by_cases e : x.2 = y.2
  · rw [if_pos e] at h2; rw [if_pos e.symm] at h1
    simp only [decide_eq_false_iff_not] at *
    exact Prod.ext (by omega) e
  · rw [if_neg e] at h2; rw [if_neg (fun e' => e e'.symm)] at h1
    exact absurd (lessP_total _ _ h2 h1) e
theorem leL_trans {x y z : Lo} (h1 : leL x y) (h2 : leL y z) : leL x z := by
  unfold leL
  cases h : lessL z x with
  | false => rfl
  | true =>
    exfalso
    cases h3 : lessL x y with
    | false => have := leL_antisymm h1 h3; subst this; unfold leL at h2; rw [h] at h2; cases h2
    | true => have := lessL_trans _ _ _ h h3; unfold leL at h2; rw [this] at h2; cases h2
abbrev Sorted (l : List Lo) : Prop := l.Pairwise leL
theorem sorted_unique : ∀ l m : List Lo, Sorted l → Sorted m → l.Perm m → l = m := by
  intro l
  induction l with
  | nil => intro m _ _ h; exact h.nil_eq
  | cons x r ih =>
    intro m h1 h2 h
    cases m with
    | nil => exact absurd h.length_eq (by simp)
    | cons y q =>
      rw [Sorted, List.pairwise_cons] at h1 h2
      have hxy : x = y := by
        have hx : x ∈ y :: q := h.mem_iff.1 (List.mem_cons_self ..)
        have hy : y ∈ x :: r := h.mem_iff.2 (List.mem_cons_self ..)
        rcases List.mem_cons.1 hx with e | hx
        · exact e
        · rcases List.mem_cons.1 hy with e | hy
          · exact e.symm
          · exact leL_antisymm (h1.1 y hy) (h2.1 x hx)
      subst hxy
      rw [ih q h1.2 h2.2 (List.Perm.cons_inv h)]
theorem sorted_snoc {P : List Lo} {x : Lo} (h : Sorted (P ++ [x])) : ∀ y ∈ P ++ [x], leL y x := by
  rw [Sorted, List.pairwise_append] at h
  intro y hy
  rcases List.mem_append.1 hy with hy | hy
  · exact h.2.2 y hy x (List.mem_singleton.2 rfl)
  · rw [List.mem_singleton.1 hy]; exact leL_refl x
theorem sorted_cons {P : List Lo} {x : Lo} (h : Sorted (x :: P)) : ∀ y ∈ x :: P, leL x y := by
  rw [Sorted, List.pairwise_cons] at h
  intro y hy
  rcases List.mem_cons.1 hy with rfl | hy
  · exact leL_refl _
  · exact h.1 y hy
/-- What stands on either side of a place. -/
theorem sorted_glue {P Q : List Lo} (hP : Sorted P) (hQ : Sorted Q) (h : ∀ x, P.getLast? = some x → ∀ y, Q.head? = some y → leL x y) : ∀ x ∈ P, ∀ y ∈ Q, leL x y := by
  intro x hx y hy
  rcases List.eq_nil_or_concat P with rfl | ⟨P', p, rfl⟩
  · cases hx
  · cases Q with
    | nil => cases hy
    | cons q Q' =>
      rw [List.concat_eq_append] at hP hx h
      exact leL_trans (sorted_snoc hP x hx) (leL_trans (h p (by simp) q rfl) (sorted_cons hQ y hy))
theorem sorted_put {P Q : List Lo} {x : Lo} (h : Sorted (P ++ Q)) (h1 : ∀ y, P.getLast? = some y → leL y x) (h2 : ∀ y ∈ Q, leL x y) : Sorted (P ++ x :: Q) := by
  rw [Sorted, List.pairwise_append] at h ⊢
  have h3 : ∀ y ∈ P, leL y x := by
    intro y hy
    rcases List.eq_nil_or_concat P with rfl | ⟨P', p, rfl⟩
    · cases hy
    · rw [List.concat_eq_append] at h hy h1
      exact leL_trans (sorted_snoc h.1 y hy) (h1 p (by simp))
  refine ⟨h.1, List.pairwise_cons.2 ⟨h2, h.2.1⟩, ?_⟩
  intro a ha b hb
  rcases List.mem_cons.1 hb with rfl | hb
  · exact h3 a ha
  · exact h.2.2 a ha b hb
/-- The sorted list. -/
def srtL : List Lo → List Lo
  | [] => []
  | x :: r => (srtL r).takeWhile (fun y => lessL y x) ++ x :: (srtL r).dropWhile (fun y => lessL y x)
theorem srtL_perm : ∀ l, (srtL l).Perm l := by
  intro l
  induction l with
  | nil => exact List.Perm.refl _
  | cons x r ih =>
    rw [srtL]
    refine List.perm_middle.trans (List.Perm.cons x ?_)
    rw [List.takeWhile_append_dropWhile]; exact ih
theorem takeWhile_mem {α : Type} (p : α → Bool) : ∀ l : List α, ∀ x ∈ l.takeWhile p, p x = true := by
  intro l
  induction l with
  | nil => intro x hx; simp at hx
  | cons a r ih =>
    intro x hx
    rw [List.takeWhile_cons] at hx
    split at hx
    · rcases List.mem_cons.1 hx with rfl | hx
      · assumption
      · exact ih x hx
    · cases hx
theorem dropWhile_head {α : Type} (p : α → Bool) : ∀ l : List α, ∀ x, (l.dropWhile p).head? = some x → p x = false := by
  intro l
  induction l with
  | nil => intro x hx; simp at hx
  | cons a r ih =>
    intro x hx
    rw [List.dropWhile_cons] at hx
    split at hx
    · exact ih x hx
    · rename_i h; simp at hx; subst hx; simpa using h
theorem srtL_sorted : ∀ l, Sorted (srtL l) := by
  intro l
  induction l with
  | nil => exact List.Pairwise.nil
  | cons x r ih =>
    rw [srtL]
    have e := List.takeWhile_append_dropWhile (p := fun y => lessL y x) (l := srtL r)
    have hs := ih; rw [← e] at hs
    refine sorted_put hs (fun y hy => leL_of_less (takeWhile_mem _ _ y (List.mem_of_getLast? hy))) ?_
    intro y hy
    have hq : Sorted ((srtL r).dropWhile (fun y => lessL y x)) := (List.pairwise_append.1 hs).2.1
    have hh := dropWhile_head (fun y => lessL y x) (srtL r)
    cases hd : (srtL r).dropWhile (fun y => lessL y x) with
    | nil => rw [hd] at hy; cases hy
    | cons q Q =>
      rw [hd] at hy hq hh
      exact leL_trans (hh q rfl) (sorted_cons hq y hy)
theorem srtL_eq {l m : List Lo} (h : m.Perm l) (hs : Sorted m) : m = srtL l := sorted_unique _ _ hs (srtL_sorted l) (h.trans (srtL_perm l).symm)
theorem srtL_length (l : List Lo) : (srtL l).length = l.length := (srtL_perm l).length_eq
theorem get_mid {A B R : List Lo} {i : Nat} (h1 : A.length ≤ i) (h2 : i < A.length + B.length) (h : i < (A ++ (B ++ R)).length) : (A ++ (B ++ R))[i] = B[i - A.length] := by
  rw [List.getElem_append_right h1, List.getElem_append_left (by omega)]
theorem get_mid2 {A U V R : List Lo} {i : Nat} (h1 : A.length + U.length ≤ i) (h2 : i < A.length + U.length + V.length) (h : i < (A ++ (U ++ (V ++ R))).length) : (A ++ (U ++ (V ++ R)))[i] = V[i - A.length - U.length] := by
  rw [List.getElem_append_right (by omega), get_mid (by omega) (by omega)]
theorem last_take {U : List Lo} {k : Nat} (hk : 0 < k) (hk2 : k ≤ U.length) {x : Lo} (h : (U.take k).getLast? = some x) : x = U[k - 1] := by
  rw [List.getLast?_eq_getElem?, List.length_take, Nat.min_eq_left hk2, List.getElem?_take_of_lt (by omega), List.getElem?_eq_getElem (by omega)] at h
  exact (Option.some.inj h).symm
theorem head_drop {U : List Lo} {k : Nat} (hk : k < U.length) {x : Lo} (h : (U.drop k).head? = some x) : x = U[k] := by
  rw [List.head?_drop, List.getElem?_eq_getElem hk] at h
  exact (Option.some.inj h).symm
/-- The halves that symMerge makes. -/
theorem sym_pure (A U V R : List Lo) (hU : Sorted U) (hV : Sorted V) (a m b mid st s0 r0 : Nat) (ha : a = A.length) (hm : m = a + U.length) (hb : b = m + V.length) (hmid : mid = (a + b) / 2) (hUn : 0 < U.length) (hVn : 0 < V.length)
    (hs : (mid < m ∧ s0 = mid + m - b ∧ r0 = mid) ∨ (m ≤ mid ∧ s0 = a ∧ r0 = m)) (h1 : s0 ≤ st) (h2 : st ≤ r0) (L : List Lo) (hL : L = A ++ (U ++ (V ++ R)))
    (k1 : s0 < st → ∀ (i j : Nat) (hi : i < L.length) (hj : j < L.length), i = mid + m - st → j = st - 1 → lessL L[i] L[j] = false)
    (k2 : st < r0 → ∀ (i j : Nat) (hi : i < L.length) (hj : j < L.length), i = mid + m - 1 - st → j = st → lessL L[i] L[j] = true) :
    ∃ U1 U2 V1 V2, U = U1 ++ U2 ∧ V = V1 ++ V2 ∧ a ≤ st ∧ U1.length = st - a ∧ V1.length = mid - st ∧ st ≤ m ∧ st ≤ mid ∧ mid + m - st ≤ b ∧ (∀ x ∈ U1 ++ V1, ∀ y ∈ U2 ++ V2, leL x y) := by
  have hLlen : L.length = b + R.length := by rw [hL]; simp; omega
  have hst : a ≤ st ∧ st ≤ m ∧ st ≤ mid ∧ mid + m - st ≤ b := by omega
  refine ⟨U.take (st - a), U.drop (st - a), V.take (mid - st), V.drop (mid - st), (List.take_append_drop ..).symm, (List.take_append_drop ..).symm, hst.1, by rw [List.length_take]; omega, by rw [List.length_take]; omega, hst.2.1, hst.2.2.1, hst.2.2.2, ?_⟩
  have hU2 := hU; have hV2 := hV
  rw [← List.take_append_drop (st - a) U] at hU2
  rw [← List.take_append_drop (mid - st) V] at hV2
  obtain ⟨u1, u2, u3⟩ := List.pairwise_append.1 hU2
  obtain ⟨v1, v2, v3⟩ := List.pairwise_append.1 hV2
  have g1 : ∀ x ∈ U.take (st - a), ∀ y ∈ V.drop (mid - st), leL x y := by
    refine sorted_glue u1 v2 ?_
    intro x hx y hy
    by_cases e1 : st = a
    · rw [e1, Nat.sub_self, List.take_zero] at hx; simp at hx
    · by_cases e2 : mid + m - st = b
      · rw [List.drop_of_length_le (by omega)] at hy; simp at hy
      · have ex := last_take (by omega) (by omega) hx
        have ey := head_drop (by omega) hy
        have k := k1 (by omega) (mid + m - st) (st - 1) (by omega) (by omega) rfl rfl
        have e3 : L[st - 1]'(by omega) = U[st - a - 1]'(by omega) := by
          simp only [hL]
          rw [get_mid (by omega) (by omega)]
          congr 1; omega
        have e4 : L[mid + m - st]'(by omega) = V[mid - st]'(by omega) := by
          simp only [hL]
          rw [get_mid2 (by omega) (by omega)]
          congr 1; omega
        rw [e3, e4, ← ex, ← ey] at k
        exact k
  have g2 : ∀ x ∈ V.take (mid - st), ∀ y ∈ U.drop (st - a), leL x y := by
    refine sorted_glue v1 u2 ?_
    intro x hx y hy
    by_cases e1 : st = mid
    · rw [e1, Nat.sub_self, List.take_zero] at hx; simp at hx
    · by_cases e2 : st = m
      · rw [List.drop_of_length_le (by omega)] at hy; simp at hy
      · have ex := last_take (by omega) (by omega) hx
        have ey := head_drop (by omega) hy
        have k := k2 (by omega) (mid + m - 1 - st) st (by omega) (by omega) rfl rfl
        have e3 : L[st]'(by omega) = U[st - a]'(by omega) := by
          simp only [hL]
          rw [get_mid (by omega) (by omega)]
          congr 1; omega
        have e4 : L[mid + m - 1 - st]'(by omega) = V[mid - st - 1]'(by omega) := by
          simp only [hL]
          rw [get_mid2 (by omega) (by omega)]
          congr 1; omega
        rw [e3, e4, ← ex, ← ey] at k
        exact leL_of_less k
  intro x hx y hy
  rcases List.mem_append.1 hx with hx | hx <;> rcases List.mem_append.1 hy with hy | hy
  · exact u3 x hx y hy
  · exact g1 x hx y hy
  · exact g2 x hx y hy
  · exact v3 x hx y hy
theorem sorted_join {S T : List Lo} (h1 : Sorted S) (h2 : Sorted T) (h : ∀ x ∈ S, ∀ y ∈ T, leL x y) : Sorted (S ++ T) := List.pairwise_append.2 ⟨h1, h2, h⟩
end Go.Proofs.Ytmajklgjmghjlaa
