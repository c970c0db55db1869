/- Texts of this proof, merged: Mark, App, MarkV, LawVal, Tree1, Same2, Num, TextF. No condition beyond what each theorem states. -/
import Derived.Test.YtggdenkmohnijaaGreatDoorZT1
import Derived.Deep.AppendLies
import Derived.Laws.BytesArg
import Derived.Lib.ItoaNum
import Derived.Lib.AppendIntMem
import Derived.Test.YtggdenkmohnijaaGreatDoorShelf
import Derived.Lib.ValidLaws
import Derived.Lib.ValidAsc
set_option linter.unusedSimpArgs false
set_option linter.unnecessarySimpa false
namespace Go.Proofs.YtggdenkmohnijaaGreatDoor
open Go.ChangeShapes Go.WideShapes Go.ChangeAt Go.RowKit Go.Joins
set_option linter.unusedVariables false
set_option maxRecDepth 100000
structure Touch (F : List Nat) (w w' : World) : Prop where
  os : w'.os = w.os
  tape : w'.tape = w.tape
  output : w'.output = w.output
  size : w.heap.size ≤ w'.heap.size
  block : ∀ f, f < w.heap.size → f ∉ F → w'.heap[f]? = w.heap[f]?
  unf : ∀ f, Unf w f → Unf w' f
theorem Touch.refl (F : List Nat) (w : World) : Touch F w w := ⟨rfl, rfl, rfl, Nat.le_refl _, fun _ _ _ => rfl, fun _ h => h⟩
theorem Touch.trans {F : List Nat} {w w1 w2 : World} (h : Touch F w w1) (k : Touch F w1 w2) : Touch F w w2 :=
  ⟨k.os.trans h.os, k.tape.trans h.tape, k.output.trans h.output, Nat.le_trans h.size k.size, fun f hf hn => (k.block f (Nat.lt_of_lt_of_le hf h.size) hn).trans (h.block f hf hn), fun f hf => k.unf f (h.unf f hf)⟩
theorem Touch.mono {F G : List Nat} {w w' : World} (h : Touch F w w') (hs : ∀ f ∈ F, f ∈ G) : Touch G w w' := ⟨h.os, h.tape, h.output, h.size, fun f hf hn => h.block f hf (fun hh => hn (hs f hh)), h.unf⟩
theorem Touch.of_below {F : List Nat} {w w' : World} (h : Below w.heap.size w w') : Touch F w w' :=
  ⟨h.os, h.tape, h.output, h.size, fun f hf _ => h.block f hf, fun f hf => hf.agree (h.block f hf.lt)⟩
theorem Touch.set (w : World) (b o : Nat) (v : Value) : Touch [b] w (w.setCell ⟨b, o, none⟩ v) := by
  refine ⟨rfl, rfl, rfl, by rw [size_set]; exact Nat.le_refl _, fun f _ hn => heap_miss w b o f (by simpa using hn) v, fun f ⟨c, e, h⟩ => ?_⟩
  by_cases hf : f = b
  · subst hf
    exact ⟨c.setIfInBounds o v, e, by simp [World.setCell, Array.getElem?_modify, h]⟩
  · exact ⟨c, e, (heap_miss w b o f hf v).trans h⟩
theorem Touch.below {F : List Nat} {w w' : World} {lo : Nat} (h : Touch F w w') (hl : lo ≤ w.heap.size) (hF : ∀ f ∈ F, lo ≤ f) : Below lo w w' :=
  ⟨h.os, h.tape, h.output, h.size, fun f hf => h.block f (by omega) (fun hm => by have := hF f hm; omega)⟩
section
variable {α : Type} {E : World → Nat → Nat → α → List Nat → Prop} {n : Nat}
theorem Row.split {w : World} {b : Nat} {A B : List α} {o : Nat} {F : List Nat} (h : Row E n w b o (A ++ B) F) : ∃ F1 F2, F = F1 ++ F2 ∧ Row E n w b o A F1 ∧ Row E n w b (o + A.length * n) B F2 := by
  induction A generalizing o F with
  | nil => exact ⟨[], F, rfl, rfl, by simpa using h⟩
  | cons x A ih =>
    obtain ⟨G1, G2, rfl, h1, h2⟩ := h
    obtain ⟨F1, F2, rfl, k1, k2⟩ := ih h2
    refine ⟨G1 ++ F1, F2, by simp, ⟨G1, F1, rfl, h1, k1⟩, ?_⟩
    rw [List.length_cons, Nat.add_mul, show o + (A.length * n + 1 * n) = o + n + A.length * n from by omega]
    exact k2
theorem Row.join {w : World} {b : Nat} {A B : List α} {o : Nat} {F1 F2 : List Nat} (h1 : Row E n w b o A F1) (h2 : Row E n w b (o + A.length * n) B F2) : Row E n w b o (A ++ B) (F1 ++ F2) := by
  induction A generalizing o F1 with
  | nil => obtain rfl : F1 = [] := h1; simpa using h2
  | cons x A ih =>
    obtain ⟨G1, G2, rfl, k1, k2⟩ := h1
    rw [List.append_assoc]
    refine ⟨G1, G2 ++ F2, rfl, k1, ih k2 ?_⟩
    rw [List.length_cons, Nat.add_mul, show o + (A.length * n + 1 * n) = o + n + A.length * n from by omega] at h2
    exact h2
theorem Row.put (hE : Loc E n) {w w' : World} {b o : Nat} {A B : List α} {x : α} {F : List Nat} (h : Row E n w b o (A ++ x :: B) F) (hF : F.Nodup) (hbF : b ∉ F) :
    ∃ G, (∀ f ∈ G, f ∈ F) ∧ E w b (o + A.length * n) x G ∧ G.Nodup ∧
      ∀ {w' : World} {y : α}, E w' b (o + A.length * n) y G → (∀ i, i < o + A.length * n ∨ o + A.length * n + n ≤ i → w'.cell? ⟨b, i, none⟩ = w.cell? ⟨b, i, none⟩) → (∀ f ∈ F, f ∉ G → w'.heap[f]? = w.heap[f]?) → Row E n w' b o (A ++ y :: B) F := by
  obtain ⟨F1, F2, rfl, h1, h2⟩ := h.split
  obtain ⟨G, F3, rfl, k1, k2⟩ := h2
  obtain ⟨n1, n2, n3⟩ := List.nodup_append.1 hF
  obtain ⟨m1, m2, m3⟩ := List.nodup_append.1 n2
  refine ⟨G, fun f hf => by simp [hf], k1, m1, fun {w' y} hy hc hf => ?_⟩
  refine Row.join (h1.agree hE _ (fun i _ hi => hc i (by omega)) (fun f hm => hf f (by simp [hm]) (fun hg => n3 f hm f (by simp [hg]) rfl))) ?_
  refine ⟨G, F3, rfl, hy, k2.agree hE _ (fun i hi _ => hc i (by omega)) (fun f hm => hf f (by simp [hm]) (fun hg => m3 f hg f hm rfl))⟩
def mkL (me : α → Int → α) (c : α → Nat) : List α → Int → List α
  | [], _ => []
  | x :: r, k => me x k :: mkL me c r (k + c x)
def cL' (c : α → Nat) : List α → Nat | [] => 0 | x :: r => c x + cL' c r
variable {me : α → Int → α} {c : α → Nat}
theorem mkL_length (l : List α) (k : Int) : (mkL me c l k).length = l.length := by
  induction l generalizing k with
  | nil => rfl
  | cons x r ih => simp [mkL, ih]
theorem mkL_snoc (l : List α) (x : α) (k : Int) : mkL me c (l ++ [x]) k = mkL me c l k ++ [me x (k + cL' c l)] := by
  induction l generalizing k with
  | nil => simp [mkL, cL']
  | cons y r ih => simp only [List.cons_append, mkL, ih, cL']; rw [show k + (c y : Int) + (cL' c r : Nat) = k + ((c y + cL' c r : Nat) : Int) from by omega]
def half (me : α → Int → α) (c : α → Nat) (l : List α) (k : Int) (j : Nat) : List α := mkL me c (l.take j) k ++ l.drop j
theorem half_all (l : List α) (k : Int) : half me c l k l.length = mkL me c l k := by simp [half]
theorem half_length (l : List α) (k : Int) (j : Nat) : (half me c l k j).length = l.length := by
  simp only [half, List.length_append, mkL_length, List.length_take, List.length_drop]; omega
theorem half_here (l : List α) (k : Int) (j : Nat) (h : j < l.length) : half me c l k j = mkL me c (l.take j) k ++ l[j] :: l.drop (j + 1) := by
  rw [half, List.drop_eq_getElem_cons h]
theorem half_succ (l : List α) (k : Int) (j : Nat) (h : j < l.length) : half me c l k (j + 1) = mkL me c (l.take j) k ++ me l[j] (k + cL' c (l.take j)) :: l.drop (j + 1) := by
  rw [half, take_snoc l j h, mkL_snoc, List.append_assoc]; rfl
theorem half_pre (l : List α) (k : Int) (j : Nat) (h : j < l.length) : (mkL me c (l.take j) k).length = j := by rw [mkL_length, List.length_take]; omega
def OwF (E : World → Nat → Nat → α → List Nat → Prop) (n : Nat) (w : World) (a : Option Addr) (cap : Nat) (l : List α) (F : List Nat) : Prop := Sl E n w a cap l F ∧ F.Nodup ∧ ∀ f ∈ F, Unf w f
theorem OwF.len {w : World} {a : Option Addr} {cap : Nat} {l : List α} {F : List Nat} (h : OwF E n w a cap l F) : l.length ≤ cap ∧ cap ≤ 9223372036854775807 := by
  have := h.1.2.1; unfold maxLen at this
  exact ⟨h.1.1, by omega⟩
theorem OwF.done {w : World} {a : Option Addr} {cap j : Nat} {l : List α} {F : List Nat} {k : Int} (h : OwF E n w a cap (half me c l k j) F) (hj : l.length = j) : OwF E n w a cap (mkL me c l k) F := by rw [← hj, half_all] at h; exact h
theorem OwF.next (hE : Loc E n) {w : World} {a : Option Addr} {cap j : Nat} {l : List α} {F : List Nat} {k : Int} (h : OwF E n w a cap (half me c l k j) F) (hj : j < l.length) :
    ∃ b o G, a = some ⟨b, o, none⟩ ∧ b ∈ F ∧ Unf w b ∧ b ∉ G ∧ (∀ f ∈ G, f ∈ F) ∧ G.Nodup ∧ E w b (o + j * n) l[j] G ∧
      ∀ w' : World, E w' b (o + j * n) (me l[j] (k + cL' c (l.take j))) G → (∀ i, i < o + j * n ∨ o + j * n + n ≤ i → w'.cell? ⟨b, i, none⟩ = w.cell? ⟨b, i, none⟩) → Touch (b :: G) w w' → OwF E n w' a cap (half me c l k (j + 1)) F := by
  obtain ⟨⟨h1, h2, h3, h4⟩, h5, h6⟩ := h
  have hne : half me c l k j ≠ [] := by intro e; have := half_length (me := me) (c := c) l k j; rw [e] at this; simp at this; omega
  obtain ⟨b, o, F', rfl, rfl, hr⟩ := h4 hne
  rw [half_here l k j hj] at hr
  obtain ⟨hb, hn⟩ := List.nodup_cons.1 h5
  have hp := half_pre (me := me) (c := c) l k j hj
  obtain ⟨G, g1, g2, g3, g4⟩ := Row.put hE (w' := w) hr hn hb
  rw [hp] at g2
  refine ⟨b, o, G, rfl, by simp, h6 b (by simp), fun hg => hb (g1 b hg), fun f hf => by simp [g1 f hf], g3, g2, fun w' hy hc ht => ?_⟩
  refine ⟨⟨by rw [half_length] at h1 ⊢; exact h1, h2, fun e => ?_, fun _ => ⟨b, o, F', rfl, rfl, ?_⟩⟩, h5, fun f hf => ht.unf f (h6 f hf)⟩
  · have := half_length (me := me) (c := c) l k (j + 1); rw [e] at this; simp at this; omega
  · rw [half_succ l k j hj]
    refine g4 (by rw [hp]; exact hy) (by rw [hp]; exact hc) (fun f hf hg => ht.block f (h6 f (by simp [hf])).lt ?_)
    rw [List.mem_cons]
    rintro (rfl | hh)
    · exact hb hf
    · exact hg hh
end
theorem Unf.frozen {w : World} {b : Nat} (hu : Unf w b) (i : Nat) : w.frozen? ⟨b, i, none⟩ = false := by
  obtain ⟨c, e, hc⟩ := hu
  simp only [World.frozen?, hc]; simp
theorem Unf.set {w : World} {b : Nat} (hu : Unf w b) (b' o : Nat) (v : Value) : Unf (w.setCell ⟨b', o, none⟩ v) b := (Touch.set w b' o v).unf b hu
theorem Touch.one {F : List Nat} {w0 w : World} (h : Touch F w0 w) {b : Nat} (hb : b ∈ F) (o : Nat) (v : Value) : Touch F w0 (w.setCell ⟨b, o, none⟩ v) := h.trans ((Touch.set w b o v).mono (by simpa using hb))
section
variable {α : Type}
structure Elem (E : World → Nat → Nat → α → List Nat → Prop) (n : Nat) : Prop where
  pos : 0 < n
  mov : ∀ (x : α) {w w' : World} {b o b' o' : Nat} {F : List Nat}, E w b o x F → (∀ i, i < n → w'.cell? ⟨b', o' + i, none⟩ = w.cell? ⟨b, o + i, none⟩) → Agree w w' F → E w' b' o' x F
  cel : ∀ (x : α) {w : World} {b o : Nat} {F : List Nat}, E w b o x F → ∀ i, i < n → ∃ u, w.cell? ⟨b, o + i, none⟩ = some u ∧ u.oneCell' = true
variable {E : World → Nat → Nat → α → List Nat → Prop} {n : Nat}
theorem Elem.loc (h : Elem E n) : Loc E n := fun x {w w' b o F} hx hc hF => h.mov x hx (fun i hi => hc (o + i) (by omega) (by omega)) hF
theorem Row.mov (hE : Elem E n) {w w' : World} {b b' : Nat} : ∀ (l : List α) {o o' : Nat} {F : List Nat}, Row E n w b o l F → (∀ i, i < l.length * n → w'.cell? ⟨b', o' + i, none⟩ = w.cell? ⟨b, o + i, none⟩) → Agree w w' F → Row E n w' b' o' l F := by
  intro l
  induction l with
  | nil => intro o o' F h _ _; exact h
  | cons t r ih =>
    intro o o' F h hb hF
    obtain ⟨F1, F2, rfl, h1, h2⟩ := h
    simp only [List.length_cons, Nat.add_mul, Nat.one_mul] at hb
    refine ⟨F1, F2, rfl, hE.mov t h1 (fun i hi => hb i (by omega)) hF.left, ih h2 (fun i hi => ?_) hF.right⟩
    have := hb (n + i) (by omega)
    rwa [show o' + (n + i) = o' + n + i from by omega, show o + (n + i) = o + n + i from by omega] at this
theorem Row.cel (hE : Elem E n) {w : World} {b : Nat} : ∀ (l : List α) {o : Nat} {F : List Nat}, Row E n w b o l F → ∀ i, i < l.length * n → ∃ u, w.cell? ⟨b, o + i, none⟩ = some u ∧ u.oneCell' = true := by
  intro l
  induction l with
  | nil => intro o F _ i hi; simp at hi
  | cons t r ih =>
    intro o F h i hi
    obtain ⟨F1, F2, rfl, h1, h2⟩ := h
    simp only [List.length_cons, Nat.add_mul, Nat.one_mul] at hi
    by_cases hin : i < n
    · exact hE.cel t h1 i hin
    · obtain ⟨u, hu, h⟩ := ih h2 (i - n) (by omega)
      rw [show o + n + (i - n) = o + i from by omega] at hu
      exact ⟨u, hu, h⟩
theorem Row.append {w : World} {b : Nat} {A B : List α} {o : Nat} {F1 F2 : List Nat} (h1 : Row E n w b o A F1) (h2 : Row E n w b (o + A.length * n) B F2) : Row E n w b o (A ++ B) (F1 ++ F2) := by
  induction A generalizing o F1 with
  | nil => obtain rfl : F1 = [] := h1; simpa using h2
  | cons x A ih =>
    obtain ⟨G1, G2, rfl, k1, k2⟩ := h1
    rw [List.append_assoc]
    refine ⟨G1, G2 ++ F2, rfl, k1, ih k2 ?_⟩
    rw [List.length_cons, Nat.add_mul, show o + (A.length * n + 1 * n) = o + n + A.length * n from by omega] at h2
    exact h2
def App (E : World → Nat → Nat → α → List Nat → Prop) (n : Nat) (e : TypeId) (nd : Prop) (w : World) (lo hi : Nat) (a : Option Addr) (cap : Nat) (l : List α) : Prop :=
  (a = none ∧ cap = 0 ∧ l = []) ∨ ∃ g cur F, a = some ⟨g, 0, none⟩ ∧ lo ≤ g ∧ g < hi ∧ w.heap[g]? = some (.cells cur e (0, 0)) ∧ l.length ≤ cap ∧ cap ≤ maxLen ∧ cur.size = cap * n ∧ Row E n w g 0 l F ∧ g ∉ F ∧ (nd → F.Nodup) ∧ ∀ f ∈ F, lo ≤ f ∧ f < hi ∧ Unf w f
variable {e : TypeId} {nd : Prop}
theorem App.nil (w : World) (lo hi : Nat) : App E n e nd w lo hi none 0 [] := Or.inl ⟨rfl, rfl, rfl⟩
theorem App.empty (w : World) (lo hi : Nat) (hl : lo ≤ w.heap.size) (hh : w.heap.size < hi) : App E n e nd (w.alloc (.cells #[] e)) lo hi (some ⟨w.heap.size, 0, none⟩) 0 [] :=
  Or.inr ⟨w.heap.size, #[], [], rfl, hl, hh, heap_alloc_new w _, Nat.le_refl _, by simp [maxLen], by simp, rfl, by simp, by simp, by simp⟩
theorem App.below (hE : Elem E n) {w w' : World} {lo hi cap m : Nat} {a : Option Addr} {l : List α} (h : App E n e nd w lo hi a cap l) (hb : Below m w w') (hm : hi ≤ m) : App E n e nd w' lo hi a cap l := by
  rcases h with h | ⟨g, cur, F, ha, h1, h2, h3, h4, h5, h6, h7, h8, h9, h10⟩
  · exact Or.inl h
  · refine Or.inr ⟨g, cur, F, ha, h1, h2, (hb.block g (by omega)).trans h3, h4, h5, h6, h7.agree hE.loc l (Cells.of_block (hb.block g (by omega)) _ _) (fun f hf => hb.block f (by have := (h10 f hf).2.1; omega)), h8, h9, fun f hf => ⟨(h10 f hf).1, (h10 f hf).2.1, (h10 f hf).2.2.agree (hb.block f (by have := (h10 f hf).2.1; omega))⟩⟩
theorem App.more {w : World} {lo hi lo' hi' cap : Nat} {a : Option Addr} {l : List α} (h : App E n e nd w lo hi a cap l) (h1 : lo' ≤ lo) (h2 : hi ≤ hi') : App E n e nd w lo' hi' a cap l := by
  rcases h with h | ⟨g, cur, F, ha, k1, k2, h3, h4, h5, h6, h7, h8, h9, h10⟩
  · exact Or.inl h
  · exact Or.inr ⟨g, cur, F, ha, by omega, by omega, h3, h4, h5, h6, h7, h8, h9, fun f hf => ⟨by have := (h10 f hf).1; omega, by have := (h10 f hf).2.1; omega, (h10 f hf).2.2⟩⟩
theorem App.len {w : World} {lo hi cap : Nat} {a : Option Addr} {l : List α} (h : App E n e nd w lo hi a cap l) : l.length ≤ cap ∧ cap ≤ 9223372036854775807 := by
  rcases h with ⟨_, rfl, rfl⟩ | ⟨g, cur, F, ha, k1, k2, h3, h4, h5, h6, h7, h8, h9, h10⟩
  · simp
  · unfold maxLen at h5; omega
theorem App.read {w : World} {lo hi cap : Nat} {a : Option Addr} {l : List α} (h : App E n e nd w lo hi a cap l) : Rd E n w hi a cap l := by
  rcases h with ⟨rfl, rfl, rfl⟩ | ⟨g, cur, F, rfl, k1, k2, h3, h4, h5, h6, h7, h8, h9, h10⟩
  · exact ⟨[], Sl.nil _ _ _ (by simp [maxLen]), by simp⟩
  · by_cases hl : l = []
    · subst hl; exact ⟨[], Sl.nil _ _ _ h5, by simp⟩
    · exact ⟨g :: F, ⟨h4, h5, fun h => absurd h hl, fun _ => ⟨g, 0, F, rfl, rfl, h7⟩⟩, by
        intro f hf
        rcases List.mem_cons.1 hf with rfl | hf
        · exact k2
        · exact (h10 f hf).2.1⟩
theorem App.own {w : World} {lo hi cap : Nat} {a : Option Addr} {l : List α} (h : App E n e True w lo hi a cap l) : Ow E n w lo hi a cap l := by
  rcases h with ⟨rfl, rfl, rfl⟩ | ⟨g, cur, F, rfl, k1, k2, h3, h4, h5, h6, h7, h8, h9, h10⟩
  · exact Ow.nil _ _ _ _ _ (by simp [maxLen])
  · by_cases hl : l = []
    · subst hl; exact Ow.nil _ _ _ _ _ h5
    · refine ⟨g :: F, ⟨h4, h5, fun h => absurd h hl, fun _ => ⟨g, 0, F, rfl, rfl, h7⟩⟩, List.nodup_cons.2 ⟨h8, h9 trivial⟩, ?_⟩
      intro f hf
      rcases List.mem_cons.1 hf with rfl | hf
      · exact ⟨k1, k2, ⟨_, _, h3⟩⟩
      · exact h10 f hf
theorem cells_list {w : World} {b o k : Nat} (h : ∀ i, i < k → ∃ u, w.cell? ⟨b, o + i, none⟩ = some u ∧ u.oneCell' = true) : ∃ cs : List Value, cs.length = k ∧ (∀ i, i < k → w.cell? ⟨b, o + i, none⟩ = cs[i]?) ∧ ∀ u ∈ cs, u.oneCell' = true := by
  induction k with
  | zero => exact ⟨[], rfl, by simp, by simp⟩
  | succ k ih =>
    obtain ⟨cs, h1, h2, h3⟩ := ih (fun i hi => h i (by omega))
    obtain ⟨u, hu, ho⟩ := h k (by omega)
    refine ⟨cs ++ [u], by simp [h1], fun i hi => ?_, fun v hv => ?_⟩
    · by_cases hik : i < k
      · rw [h2 i hik, List.getElem?_append_left (by omega)]
      · obtain rfl : i = k := by omega
        rw [hu, List.getElem?_append_right (by omega), h1]; simp
    · rcases List.mem_append.1 hv with hv | hv
      · exact h3 v hv
      · simp at hv; subst hv; exact ho
theorem App.grown (hE : Elem E n) {w w' : World} {lo hi cap cap' : Nat} {a : Option Addr} {l ys : List α} {b o g' : Nat} {G : List Nat} {news xs : List Value}
    (h : App E n e nd w lo hi a cap l) (hhi : hi ≤ w.heap.size) (hys : Row E n w b o ys G) (hG : nd → G.Nodup) (hG2 : ∀ f ∈ G, lo ≤ f ∧ f < w.heap.size ∧ Unf w f ∧ ∀ k, (Value.slice a l.length cap).ownBlock = some k → f ≠ k) (hG3 : nd → ∀ f ∈ G, hi ≤ f)
    (hnl : news.length = ys.length * n) (hnc : ∀ i, i < ys.length * n → w.cell? ⟨b, o + i, none⟩ = news[i]?) (hxs : ∀ g, a = some ⟨g, 0, none⟩ → ∀ i, i < l.length * n → w.cell? ⟨g, 0 + i, none⟩ = xs[i]?) (hxl : xs.length = l.length * n)
    (hown : w'.ownsRow lo e n (.slice (some ⟨g', 0, none⟩) (l.length + ys.length) cap') (l.length + ys.length) (xs ++ news)) (hgr : w.grownBy w' (Value.slice a l.length cap).ownBlock) (hat : (Value.slice a l.length cap).ownBlock = some g' ∨ g' = w.heap.size) (hlt : g' < w'.heap.size) :
    App E n e nd w' lo w'.heap.size (some ⟨g', 0, none⟩) cap' (l ++ ys) ∧ (lo ≤ w.heap.size → Below lo w w') ∧ (∀ f, f < w.heap.size → (∀ k, (Value.slice a l.length cap).ownBlock = some k → f ≠ k) → w'.heap[f]? = w.heap[f]?) := by
  have hsz := hgr.size
  have hout : ∀ f, f < w.heap.size → (∀ k, (Value.slice a l.length cap).ownBlock = some k → f ≠ k) → w'.heap[f]? = w.heap[f]? := fun f hf hk => hgr.block f hf (fun e => hk f e.symm rfl)
  have hrow : ∃ cur, w'.heap[g']? = some (.cells cur e (0, 0)) ∧ l.length + ys.length ≤ cap' ∧ cap' ≤ maxLen ∧ cur.size = cap' * n ∧ cur.toList.take ((l.length + ys.length) * n) = xs ++ news ∧ lo ≤ g' := by
    rcases hown.2 with ⟨h0, _⟩ | ⟨g, cap2, cur, hv, hb, hg, h1, h2, h3, h4⟩
    · cases h0
    · injection hv with hv1 hv2 hv3
      injection hv1 with hv1
      injection hv1 with hv1
      subst hv1 hv3
      exact ⟨cur, hg, h1, h2, h3, h4, hb⟩
  obtain ⟨cur, r1, r2, r3, r4, r5, r6⟩ := hrow
  have hcell : ∀ i, i < (l.length + ys.length) * n → w'.cell? ⟨g', i, none⟩ = (xs ++ news)[i]? := by
    intro i hi
    rw [← r5, List.getElem?_take, if_pos hi]
    have hle : (l.length + ys.length) * n ≤ cap' * n := Nat.mul_le_mul_right _ r2
    simp [World.cell?, r1]
  have hmul : (l.length + ys.length) * n = l.length * n + ys.length * n := Nat.add_mul _ _ _
  refine ⟨?_, fun hl => ⟨hgr.os, hgr.tape, hgr.output, hgr.size, fun k hk => hgr.block k (by omega) ?_⟩, hout⟩
  · have hyr : Row E n w' g' (0 + l.length * n) ys G := by
      refine hys.mov hE ys (fun i hi => ?_) (fun f hf => hout f (hG2 f hf).2.1 (hG2 f hf).2.2.2)
      rw [Nat.zero_add, hcell _ (by omega), List.getElem?_append_right (by omega), hnc i hi, hxl]
      congr 1; omega
    have hgG : g' ∉ G := by
      intro hm
      rcases hat with h1 | h1
      · exact (hG2 g' hm).2.2.2 g' h1 rfl
      · have := (hG2 g' hm).2.1; omega
    rcases h with ⟨rfl, rfl, rfl⟩ | ⟨g, cur0, F, rfl, k1, k2, h3, h4, h5, h6, h7, h8, h9, h10⟩
    · refine Or.inr ⟨g', cur, G, rfl, r6, hlt, r1, by simpa using r2, r3, r4, by simpa using hyr, hgG, hG, fun f hf => ⟨(hG2 f hf).1, by have := (hG2 f hf).2.1; omega, (hG2 f hf).2.2.1.agree (hout f (hG2 f hf).2.1 (hG2 f hf).2.2.2)⟩⟩
    · have hFo : ∀ f ∈ F, w'.heap[f]? = w.heap[f]? := fun f hf => hout f (by have := (h10 f hf).2.1; omega) (fun k hk => by simp only [Value.ownBlock, Option.some.injEq] at hk; subst hk; rintro rfl; exact h8 hf)
      have hlr : Row E n w' g' 0 l F := by
        refine h7.mov hE l (fun i hi => ?_) hFo
        rw [Nat.zero_add, hcell _ (by omega), List.getElem?_append_left (by omega)]
        have := hxs g rfl i hi
        rw [Nat.zero_add] at this
        exact this.symm
      have hgF : g' ∉ F := by
        intro hm
        rcases hat with h1 | h1
        · simp only [Value.ownBlock, Option.some.injEq] at h1; subst h1; exact h8 hm
        · have := (h10 g' hm).2.1; omega
      refine Or.inr ⟨g', cur, F ++ G, rfl, r6, hlt, r1, by simpa using r2, r3, r4, hlr.append hyr, by simp [hgF, hgG], fun hnd => ?_, fun f hf => ?_⟩
      · rw [List.nodup_append]
        refine ⟨h9 hnd, hG hnd, ?_⟩
        intro x hx y hy e
        have := (h10 x hx).2.1
        have := hG3 hnd y hy
        omega
      · rcases List.mem_append.1 hf with hf | hf
        · exact ⟨(h10 f hf).1, by have := (h10 f hf).2.1; omega, (h10 f hf).2.2.agree (hFo f hf)⟩
        · exact ⟨(hG2 f hf).1, by have := (hG2 f hf).2.1; omega, (hG2 f hf).2.2.1.agree (hout f (hG2 f hf).2.1 (hG2 f hf).2.2.2)⟩
  · intro hk2
    rcases h with ⟨rfl, rfl, rfl⟩ | ⟨g, cur0, F, rfl, k1, k2, _⟩
    · simp [Value.ownBlock] at hk2
    · simp [Value.ownBlock] at hk2; omega
theorem App.owns {w : World} {lo hi cap : Nat} {a : Option Addr} {l : List α} (hE : Elem E n) (h : App E n e nd w lo hi a cap l) :
    ∃ xs : List Value, w.ownsRow lo e n (.slice a l.length cap) l.length xs ∧ xs.length = l.length * n ∧ ∀ g, a = some ⟨g, 0, none⟩ → ∀ i, i < l.length * n → w.cell? ⟨g, 0 + i, none⟩ = xs[i]? := by
  rcases h with ⟨rfl, rfl, rfl⟩ | ⟨g, cur, F, rfl, k1, k2, h3, h4, h5, h6, h7, h8, h9, h10⟩
  · exact ⟨[], World.ownsRow_nil _ _ _ _, by simp, by simp⟩
  · have hle : l.length * n ≤ cur.size := by rw [h6]; exact Nat.mul_le_mul_right _ h4
    have hl : (cur.toList.take (l.length * n)).length = l.length * n := by simp; omega
    refine ⟨cur.toList.take (l.length * n), ⟨hl, Or.inr ⟨g, cap, cur, rfl, k1, h3, h4, h5, h6, rfl⟩⟩, hl, ?_⟩
    intro g2 hg2 i hi
    injection hg2 with hg2
    injection hg2 with hg2
    subst hg2
    rw [Nat.zero_add, List.getElem?_take, if_pos hi]
    simp [World.cell?, h3]
theorem wpList_app {P : Program} {w : World} (hE : Elem E n) {ops : Array Oper} {rest : List Oper} {o : Oper} {act : Act} {Q : Exit → Act → World → Prop} (hgd : o.guard = none) (s x : Operand) (t : TypeId)
    (ho : o.op = .call { callee := .builtin .append, args := #[s, x], argTypes := #[t, t] }) (z : Value) (bytes : Nat) (ht : P.underlying t = some (.slice e)) (hinfo : (P.info? e).map (fun i => (i.zero, i.size, i.bytes)) = some (some z, n, bytes)) (hzs : z.cells.size = n)
    (lo hi : Nat) (a : Option Addr) (cap : Nat) (l : List α) (hs : act.eval s = .slice a l.length cap) (happ : App E n e nd w lo hi a cap l) (hhi : hi ≤ w.heap.size) (hlo : lo ≤ w.heap.size)
    (b off m c : Nat) (ys : List α) (G : List Nat) (hx : act.eval x = .slice (some ⟨b, off, none⟩) m c) (hm : ys.length = m) (hys : Row E n w b off ys G) (hG : nd → G.Nodup) (hG2 : ∀ f ∈ G, lo ≤ f ∧ f < w.heap.size ∧ Unf w f ∧ ∀ k, (Value.slice a l.length cap).ownBlock = some k → f ≠ k) (hG3 : nd → ∀ f ∈ G, hi ≤ f)
    (hpos : 0 < m) (h63 : l.length + m ≤ maxLen) (hbytes : (l.length + m) * bytes ≤ 140737488355328)
    (h : ∀ a' cap' w', App E n e nd w' lo w'.heap.size a' cap' (l ++ ys) → Below lo w w' → (∀ f, f < w.heap.size → (∀ k, (Value.slice a l.length cap).ownBlock = some k → f ≠ k) → w'.heap[f]? = w.heap[f]?) → wpList P ops Q rest (act.put o.dst (.slice a' (l ++ ys).length cap')) w') : wpList P ops Q (o :: rest) act w := by
  obtain ⟨i, hi', hz0, hz1, hz2⟩ := info_parts hinfo
  obtain ⟨xs, q1, q2, q3⟩ := happ.owns hE
  subst hm
  obtain ⟨news, n1, n2, n3⟩ := cells_list (hys.cel hE ys)
  refine wpList_append_lies w hgd s x t ho lo e i z n bytes ht hi' hz0 hz1 hz2 hzs hE.pos (.slice a l.length cap) l.length xs hs q1 ⟨b, off, none⟩ ys.length c news hx n1 (fun j u hj => ?_) n3 hpos h63 hbytes hlo w.heap.size rfl (fun g' cap' w' hown hgr hat hlt => ?_)
  · have hj2 : j < ys.length * n := by
      rcases Nat.lt_or_ge j (ys.length * n) with h | h
      · exact h
      · rw [List.getElem?_eq_none (by omega)] at hj; cases hj
    rw [← hj, ← n2 j hj2, Addr.add_lit]
  · obtain ⟨r1, r2, r3⟩ := App.grown hE happ hhi hys hG hG2 hG3 n1 n2 q3 q2 hown hgr hat hlt
    have := h _ _ w' r1 (r2 hlo) r3
    rwa [List.length_append] at this
end
theorem EInt.elem : Elem EInt 1 := by
  refine ⟨by omega, ?_, ?_⟩
  · intro x w w' b o b' o' F h hc _
    exact ⟨h.1, by have := hc 0 (by omega); rw [Nat.add_zero, Nat.add_zero] at this; rw [this]; exact h.2.1, h.2.2⟩
  · intro x w b o F h i hi
    obtain rfl : i = 0 := by omega
    exact ⟨_, h.2.1, rfl⟩
theorem EByte.elem : Elem EByte 1 := by
  refine ⟨by omega, ?_, ?_⟩
  · intro x w w' b o b' o' F h hc _
    exact ⟨h.1, by have := hc 0 (by omega); rw [Nat.add_zero, Nat.add_zero] at this; rw [this]; exact h.2.1, h.2.2⟩
  · intro x w b o F h i hi
    obtain rfl : i = 0 := by omega
    exact ⟨_, h.2.1, rfl⟩
theorem EStep.elem : Elem EStep 2 := by
  refine ⟨by omega, ?_, ?_⟩
  · intro x w w' b o b' o' F h hc _
    have h0 := hc 0 (by omega)
    have h1 := hc 1 (by omega)
    rw [Nat.add_zero, Nat.add_zero] at h0
    exact ⟨h.1, by rw [h0]; exact h.2.1, by rw [h1]; exact h.2.2.1, h.2.2.2⟩
  · intro x w b o F h i hi
    rcases (by omega : i = 0 ∨ i = 1) with rfl | rfl
    · exact ⟨_, h.2.1, rfl⟩
    · exact ⟨_, h.2.2.1, rfl⟩
theorem ELoss.elem : Elem ELoss 2 := by
  refine ⟨by omega, ?_, ?_⟩
  · intro x w w' b o b' o' F h hc hF
    have h0 := hc 0 (by omega)
    have h1 := hc 1 (by omega)
    rw [Nat.add_zero, Nat.add_zero] at h0
    obtain ⟨k1, k2, a, cap, k3, k4⟩ := h
    exact ⟨by rw [h0]; exact k1, k2, a, cap, by rw [h1]; exact k3, k4.agree EStep.loc hF⟩
  · intro x w b o F h i hi
    obtain ⟨k1, k2, a, cap, k3, k4⟩ := h
    rcases (by omega : i = 0 ∨ i = 1) with rfl | rfl
    · exact ⟨_, k1, rfl⟩
    · exact ⟨_, k3, rfl⟩
theorem TR.row {w : World} {b : Nat} : ∀ {l : List T} {o : Nat} {F : List Nat}, TR w b o l F ↔ Row TV 5 w b o l F := by
  intro l
  induction l with
  | nil => intro o F; rw [TR]; exact Iff.rfl
  | cons t r ih =>
    intro o F
    rw [TR]
    constructor
    · rintro ⟨F1, F2, h, h1, h2⟩; exact ⟨F1, F2, h, h1, ih.1 h2⟩
    · rintro ⟨F1, F2, h, h1, h2⟩; exact ⟨F1, F2, h, h1, ih.2 h2⟩
theorem TL.sl {w : World} {a : Option Addr} {cap : Nat} {l : List T} {F : List Nat} : TL w a cap l F ↔ Sl TV 5 w a cap l F := by
  constructor
  · rintro ⟨h1, h2, h3, h4⟩
    refine ⟨h1, h2, h3, fun hne => ?_⟩
    obtain ⟨b, o, F', ha, hF, hr⟩ := h4 hne
    exact ⟨b, o, F', ha, hF, TR.row.1 hr⟩
  · rintro ⟨h1, h2, h3, h4⟩
    refine ⟨h1, h2, h3, fun hne => ?_⟩
    obtain ⟨b, o, F', ha, hF, hr⟩ := h4 hne
    exact ⟨b, o, F', ha, hF, TR.row.2 hr⟩
theorem TV.elem : Elem TV 5 := by
  refine ⟨by omega, ?_, ?_⟩
  · intro x w w' b o b' o' F h hc hF
    rw [← T.eta x, TV.iff] at h ⊢
    obtain ⟨h0, h1, h2, h3, i0, i1, i2, i3, a, cap, h4, hl⟩ := h
    refine ⟨(hc 0 (by omega)).trans h0, (hc 1 (by omega)).trans h1, (hc 2 (by omega)).trans h2, (hc 3 (by omega)).trans h3, i0, i1, i2, i3, a, cap, (hc 4 (by omega)).trans h4, hl.agree hF⟩
  · intro x w b o F h i hi
    rw [← T.eta x, TV.iff] at h
    obtain ⟨h0, h1, h2, h3, i0, i1, i2, i3, a, cap, h4, hl⟩ := h
    rcases (by omega : i = 0 ∨ i = 1 ∨ i = 2 ∨ i = 3 ∨ i = 4) with rfl | rfl | rfl | rfl | rfl
    · exact ⟨_, h0, rfl⟩
    · exact ⟨_, h1, rfl⟩
    · exact ⟨_, h2, rfl⟩
    · exact ⟨_, h3, rfl⟩
    · exact ⟨_, h4, rfl⟩
theorem R.rd {w : World} {B cap : Nat} {a : Option Addr} {l : List T} : R w B a cap l ↔ Rd TV 5 w B a cap l := by
  constructor
  · rintro ⟨F, h, k⟩; exact ⟨F, TL.sl.1 h, k⟩
  · rintro ⟨F, h, k⟩; exact ⟨F, TL.sl.2 h, k⟩
theorem Own.ow {w : World} {lo hi cap : Nat} {a : Option Addr} {l : List T} : Own w lo hi a cap l ↔ Ow TV 5 w lo hi a cap l := by
  constructor
  · rintro ⟨F, h, k⟩; exact ⟨F, TL.sl.1 h, k⟩
  · rintro ⟨F, h, k⟩; exact ⟨F, TL.sl.2 h, k⟩
theorem countL_le_szL (l : List T) : T.countL l ≤ T.szL l := by
  have := T.countL_le_szL (.mk 0 0 0 ⟨#[]⟩ l)
  simp only [T.count, T.sz] at this
  have h : (⟨#[]⟩ : ByteArray).size = 0 := rfl
  omega
theorem info_Val : (Tryz.prog.info? 26).map (fun i => (i.zero, i.size, i.bytes)) = some (some (.agg #[.int .i64 0, .int .i64 0, .int .i64 0, .string ⟨#[]⟩, .slice none 0 0]), 5, 64) := by kernel_rfl
theorem impl_DeepOf : ∀ t : T, T.count t ≤ 4611686018427387904 → ∀ (a : Option Addr) (cap B : Nat) (w : World), R w B a cap t.l → B ≤ w.heap.size →
    Calls Tryz.prog 16 #[.agg #[.int .i64 t.k, .int .i64 t.n, .int .i64 t.x, .string t.s, .slice a t.l.length cap]] w fun e w' => e = .returned (.int .i64 (T.depth t)) ∧ Below w.heap.size w w' := by
  intro t
  induction t using T.ind with
  | h k0 n0 x0 s0 l0 ih =>
    intro hc a cap B w hr hBw
    simp only [T.k, T.n, T.x, T.s, T.l] at hr ⊢
    have IH := Lib.hid ih; clear ih
    obtain ⟨hl1, hl2⟩ := hr.len
    have HC := Lib.hid hc; clear hc
    go_enter Tryz.func16, Tryz.ntmps16
    go_wp2
    generalize hW : (w.alloc (Obj.cells #[Value.int IntKind.i64 k0, Value.int IntKind.i64 n0, Value.int IntKind.i64 x0, Value.string s0, Value.slice a l0.length cap] 26)) = W0
    have hB : Below w.heap.size w W0 := by subst hW; go_grown
    have hN : w.heap.size + 1 = W0.heap.size := by subst hW; simp
    clear hW
    have HN := Lib.hid hN; clear hN
    have hR := hr.below hB hBw
    go_loopw [3, 9, 5] (fun m i _ wr => ∃ j : Nat, j ≤ l0.length ∧ i = .int .i64 j ∧ m = .int .i64 (T.depthL (l0.take j)) ∧ Below W0.heap.size W0 wr) (fun _ i _ _ => l0.length - (intOf i).toNat)
    case atStart => exact ⟨0, Nat.zero_le _, rfl, by simp [T.depthL], Below.refl _ _⟩
    case round =>
      obtain ⟨j, hj, rfl, rfl, hb⟩ := hrel
      by_cases hlt : j < l0.length
      · have hR' := hR.below hb (by have := HN.out; omega)
        obtain ⟨b, o, a', cap', rfl, hbl, d0, d1, d2, d3, d4, hwf, hr'⟩ := hR'.get j hlt
        have HT := Lib.hid (T.depthL_take_succ l0 j hlt)
        go_wp2_with fail
        refine (IH.out l0[j] (List.getElem_mem hlt) (by have := HC.out; simp only [T.count] at this; have := T.count_get l0 j hlt; omega) a' cap' B _ (hr'.below (below1 _ _) (by have := hb.size; have := HN.out; omega)) (by have := hb.size; have := HN.out; simp; omega)).mono ?_
        rintro e w2 ⟨rfl, hb2⟩
        go_wp2_with fail
        all_goals go_roundw
        case rel => exact ⟨j + 1, by omega, by go_num, by rw [HT.out]; go_num, hb.trans (((Below.alloc (Below.refl _ _) (Nat.le_refl _) _).trans (hb2.mono (by simp))).mono hb.size)⟩
        case measure => simp [intOf]; omega
      · have hjj : l0.length = j := by omega
        have hd : T.depthL (l0.take j) + 1 ≤ 4611686018427387904 := by
          have := HC.out; simp only [T.count] at this
          have := T.depthL_le_countL l0
          rw [← hjj, List.take_length]; omega
        have HJ := Lib.hid hjj; clear hjj
        go_wp2_with fail
        go_ret
        refine ⟨?_, hB.trans (hb.mono hB.size)⟩
        rw [← HJ.out, List.take_length]; simp [T.depth]
mutual
def sameT : T → T → Bool
  | .mk k n x s l, .mk k' n' x' s' l' => decide (k = k') && decide (n = n') && decide (x = x') && decide (s.data = s'.data) && sameTs l l'
def sameTs : List T → List T → Bool
  | [], [] => true
  | a :: r, b :: q => sameT a b && sameTs r q
  | [], _ :: _ => false
  | _ :: _, [] => false
end
theorem sameT_iff : ∀ a b : T, sameT a b = true ↔ a = b := by
  intro a
  induction a using T.ind with
  | h k n x s l ih =>
    intro b
    obtain ⟨k', n', x', s', l'⟩ := b
    have key : ∀ (r q : List T), (∀ t ∈ r, t ∈ l) → (sameTs r q = true ↔ r = q) := by
      intro r
      induction r with
      | nil => intro q _; cases q <;> simp [sameTs]
      | cons t r ihr =>
        intro q hm
        cases q with
        | nil => simp [sameTs]
        | cons u q =>
          rw [sameTs, Bool.and_eq_true, ih t (hm t (by simp)) u, ihr q (fun v hv => hm v (by simp [hv]))]
          simp
    rw [sameT]
    simp only [Bool.and_eq_true, decide_eq_true_eq, key l l' (fun _ h => h), T.mk.injEq]
    constructor
    · rintro ⟨⟨⟨⟨h1, h2⟩, h3⟩, h4⟩, h5⟩
      refine ⟨h1, h2, h3, ?_, h5⟩
      cases s; cases s'; simp at h4; rw [h4]
    · rintro ⟨h1, h2, h3, h4, h5⟩; exact ⟨⟨⟨⟨h1, h2⟩, h3⟩, by rw [h4]⟩, h5⟩
theorem sameT_true {a b : T} (h : a = b) : sameT a b = true := (sameT_iff a b).2 h
theorem sameT_false {a b : T} (h : ¬ a = b) : sameT a b = false := by
  rw [Bool.eq_false_iff]; exact fun e => h ((sameT_iff a b).1 e)
set_option maxHeartbeats 1000000 in
theorem spec_SameVal : ∀ t u : T, ∀ (a a' : Option Addr) (cap cap' B : Nat) (w : World), R w B a cap t.l → R w B a' cap' u.l → B ≤ w.heap.size →
    Calls Tryz.prog 176 #[.agg (cV t a cap), .agg (cV u a' cap')] w fun e w' => e = .returned (.bool (sameT t u)) ∧ Below w.heap.size w w' := by
  intro t
  induction t using T.ind with
  | h k n x s l ih =>
    intro u a a' cap cap' B w hr hr' hB
    have IH := Lib.hid ih; clear ih
    obtain ⟨k', n', x', s', l'⟩ := u
    simp only [cV, T.k, T.n, T.x, T.s, T.l] at hr hr' ⊢
    obtain ⟨hl1, hl2⟩ := hr.len
    obtain ⟨hm1, hm2⟩ := hr'.len
    have HR := Lib.hid hr; clear hr
    have HR' := Lib.hid hr'; clear hr'
    have H3 := Lib.hid (below2 w (.cells #[Value.int IntKind.i64 k, Value.int IntKind.i64 n, Value.int IntKind.i64 x, Value.string s, Value.slice a l.length cap] 26) (.cells #[Value.int IntKind.i64 k', Value.int IntKind.i64 n', Value.int IntKind.i64 x', Value.string s', Value.slice a' l'.length cap'] 26))
    by_cases hk : k = k'
    case neg =>
      have h1 : (k == k') = false := by simp [hk]
      have h2 : (k != k') = true := by simp [hk]
      have HE := Lib.hid (show sameT (T.mk k n x s l) (T.mk k' n' x' s' l') = false from sameT_false (fun e => hk (by injection e)))
      clear hk
      go_enter Tryz.func176, Tryz.ntmps176
      go_wp2_with fail
      go_ret
      exact ⟨ret_b HE.out.symm, H3.out⟩
    subst hk
    by_cases hk : n = n'
    case neg =>
      have h1 : (n == n') = false := by simp [hk]
      have h2 : (n != n') = true := by simp [hk]
      have HE := Lib.hid (show sameT (T.mk k n x s l) (T.mk k n' x' s' l') = false from sameT_false (fun e => hk (by injection e)))
      clear hk
      go_enter Tryz.func176, Tryz.ntmps176
      go_wp2_with fail
      go_ret
      exact ⟨ret_b HE.out.symm, H3.out⟩
    subst hk
    by_cases hk : x = x'
    case neg =>
      have h1 : (x == x') = false := by simp [hk]
      have h2 : (x != x') = true := by simp [hk]
      have HE := Lib.hid (show sameT (T.mk k n x s l) (T.mk k n x' s' l') = false from sameT_false (fun e => hk (by injection e)))
      clear hk
      go_enter Tryz.func176, Tryz.ntmps176
      go_wp2_with fail
      go_ret
      exact ⟨ret_b HE.out.symm, H3.out⟩
    subst hk
    by_cases hk : s = s'
    case neg =>
      have h1 := bytes_ne hk
      have h2 : (s.toList != s'.toList) = true := by simp [bne, h1]
      have HE := Lib.hid (show sameT (T.mk k n x s l) (T.mk k n x s' l') = false from sameT_false (fun e => hk (by injection e)))
      clear hk
      go_enter Tryz.func176, Tryz.ntmps176
      go_wp2_with fail
      go_ret
      exact ⟨ret_b HE.out.symm, H3.out⟩
    subst hk
    by_cases hk : l.length = l'.length
    case neg =>
      have h1 : ((l.length : Int) == l'.length) = false := by rw [beq_eq_false_iff_ne]; omega
      have h2 : ((l.length : Int) != l'.length) = true := by simp [bne, h1]
      have HE := Lib.hid (show sameT (T.mk k n x s l) (T.mk k n x s l') = false from sameT_false (fun e => hk (by injection e with _ _ _ _ e5; rw [e5])))
      clear hk
      go_enter Tryz.func176, Tryz.ntmps176
      go_wp2_with fail
      go_ret
      exact ⟨ret_b HE.out.symm, H3.out⟩
    have h1 : ((l.length : Int) == l'.length) = true := by simp [hk]
    have h2 : ((l.length : Int) != l'.length) = false := by simp [hk]
    have HL := Lib.hid hk; clear hk
    have q1 : Is ((w.alloc (.cells #[Value.int IntKind.i64 k, Value.int IntKind.i64 n, Value.int IntKind.i64 x, Value.string s, Value.slice a l.length cap] 26)).alloc (.cells #[Value.int IntKind.i64 k, Value.int IntKind.i64 n, Value.int IntKind.i64 x, Value.string s, Value.slice a' l'.length cap'] 26)) w.heap.size 26 _ := (Is.new _ _ _).alloc _
    have q2 := Is.new2 w (.cells #[Value.int IntKind.i64 k, Value.int IntKind.i64 n, Value.int IntKind.i64 x, Value.string s, Value.slice a l.length cap] 26) #[Value.int IntKind.i64 k, Value.int IntKind.i64 n, Value.int IntKind.i64 x, Value.string s, Value.slice a' l'.length cap'] 26
    have hs : w.heap.size + 2 ≤ ((w.alloc (.cells #[Value.int IntKind.i64 k, Value.int IntKind.i64 n, Value.int IntKind.i64 x, Value.string s, Value.slice a l.length cap] 26)).alloc (.cells #[Value.int IntKind.i64 k, Value.int IntKind.i64 n, Value.int IntKind.i64 x, Value.string s, Value.slice a' l'.length cap'] 26)).heap.size := by simp
    go_enter Tryz.func176, Tryz.ntmps176
    go_wp2_with fail
    generalize hW : (w.alloc (.cells #[Value.int IntKind.i64 k, Value.int IntKind.i64 n, Value.int IntKind.i64 x, Value.string s, Value.slice a l.length cap] 26)).alloc (.cells #[Value.int IntKind.i64 k, Value.int IntKind.i64 n, Value.int IntKind.i64 x, Value.string s, Value.slice a' l'.length cap'] 26) = W0 at q1 q2 H3 hs ⊢
    clear hW
    go_loopw [5] (fun i wr => ∃ (j : Nat), j ≤ l.length ∧ i = .int .i64 j ∧ Hid (l.take j = l'.take j) ∧ Below W0.heap.size W0 wr) (fun i _ => l.length - (intOf i).toNat)
    case atStart => exact ⟨0, Nat.zero_le _, rfl, rfl, Below.refl _ _⟩
    case round =>
      obtain ⟨j, hj, rfl, HP, hb⟩ := hrel
      have hbs := hb.size
      obtain ⟨c0, c1, c2, c3, c4⟩ := (q1.below hb (by omega)).cells5
      obtain ⟨e0, e1, e2, e3, e4⟩ := (q2.below hb (by omega)).cells5
      by_cases hlt : j < l.length
      · have hlt' : j < l'.length := by have := HL.out; omega
        have hR := (HR.out.below H3.out hB).below hb (by omega)
        have hR' := (HR'.out.below H3.out hB).below hb (by omega)
        obtain ⟨b, o, a2, cap2, rfl, hbl, d0, d1, d2, d3, d4, hwf, hq⟩ := hR.get j hlt
        obtain ⟨b', o', a3, cap3, rfl, hbl', d0', d1', d2', d3', d4', hwf', hq'⟩ := hR'.get j hlt'
        have l1 : b < wr.heap.size := by omega
        have l2 : b' < wr.heap.size := by omega
        have l3 : w.heap.size < wr.heap.size := by omega
        have l4 : w.heap.size + 1 < wr.heap.size := by omega
        clear hR hR' hwf hwf'
        go_wp2_with fail
        go_region_held3 (fun w' => (∀ b o, b < wr.heap.size → w'.cell? ⟨b, o, none⟩ = wr.cell? ⟨b, o, none⟩) ∧ Below (wr.heap.size) wr w') (first | exact ⟨fun _ _ _ => rfl, (Below.refl _ _).drew⟩ | assumption | exact keep_step (by assumption) (Below.drew (Below.refl _ _)) (Nat.le_refl _) | exact keep_step (by assumption) (by assumption) (by first | omega | (simp only [World.size_drew]; omega) | (simp only [size_alloc]; omega) | (simp only [World.size_drew, size_alloc]; omega) | (have := (‹(_ ∧ Below (wr.heap.size) wr _)›).2.size; first | omega | (simp only [World.size_drew]; omega) | (simp only [size_alloc]; omega) | (simp only [World.size_drew, size_alloc]; omega) | (simp only [World.size_drew] at this; omega) | (simp only [size_alloc] at this; omega) | (simp only [World.size_drew, size_alloc] at this; omega))) | exact keep_step (by assumption) (below1 _ _) (by first | omega | (simp only [World.size_drew]; omega) | (simp only [size_alloc]; omega) | (simp only [World.size_drew, size_alloc]; omega) | (have := (‹(_ ∧ Below (wr.heap.size) wr _)›).2.size; first | omega | (simp only [World.size_drew]; omega) | (simp only [size_alloc]; omega) | (simp only [World.size_drew, size_alloc]; omega) | (simp only [World.size_drew] at this; omega) | (simp only [size_alloc] at this; omega) | (simp only [World.size_drew, size_alloc] at this; omega)))) (first | (go_at_call 176; refine (IH.out l[j] (List.getElem_mem hlt) l'[j] _ _ _ _ B _ ?_ ?_ (by have := (‹_ ∧ Below (wr.heap.size) wr _›).2.size; omega)).mono ?_; (exact hq.below (‹_ ∧ Below (wr.heap.size) wr _›).2 (by omega)); (exact hq'.below (‹_ ∧ Below (wr.heap.size) wr _›).2 (by omega)); rintro e w2 ⟨rfl, hb2⟩))
        have K := Lib.hid (hb.trans ((‹_ ∧ Below (wr.heap.size) wr _›).2.mono hbs))
        clear hb2
        by_cases he : l[j] = l'[j]
        · have HE := Lib.hid (show l.take (j + 1) = l'.take (j + 1) from by rw [take_snoc l j hlt, take_snoc l' j hlt', HP.out, he])
          have hd := sameT_true he
          clear he
          rw [hd]
          go_wp2_with fail
          go_roundw
          case rel => exact ⟨j + 1, by omega, by go_num, HE.out, K.out⟩
          case measure => simp [intOf]; omega
        · have HE := Lib.hid (show sameT (T.mk k n x s l) (T.mk k n x s l') = false from sameT_false (fun e => he (by injection e with _ _ _ _ e5; subst e5; rfl)))
          have hd := sameT_false he
          clear he
          rw [hd]
          go_wp2_with fail
          go_ret
          exact ⟨ret_b HE.out.symm, H3.out.trans (K.out.mono (by omega))⟩
      · have HJ := Lib.hid (show sameT (T.mk k n x s l) (T.mk k n x s l') = true from sameT_true (by have := HP.out; have h2 := HL.out; rw [List.take_of_length_le (by omega), List.take_of_length_le (by omega)] at this; rw [this]))
        go_wp2_with fail
        go_ret
        exact ⟨ret_b HJ.out.symm, H3.out.trans (hb.mono (by omega))⟩
def sdig (k : Nat) (out : ByteArray) : ByteArray := if h : k = 0 then out else sdig (k / 10) (strOfNums [48 + (k : Int) % 10] ++ out)
termination_by k
decreasing_by omega
theorem sdig_zero (out : ByteArray) : sdig 0 out = out := by rw [sdig]; simp
theorem sdig_pos (k : Nat) (h : k ≠ 0) (out : ByteArray) : sdig k out = sdig (k / 10) (strOfNums [48 + (k : Int) % 10] ++ out) := by rw [sdig]; simp [h]
theorem digit_one (k : Nat) (h : k < 10) : strOfNums [48 + (k : Int)] = ⟨#[UInt8.ofNat (48 + k)]⟩ := by
  have h1 : (48 + (k : Int)).toNat = 48 + k := by omega
  unfold strOfNums
  simp only [List.map, h1]
theorem sdig_dec (k : Nat) : ∀ out : ByteArray, k ≠ 0 → sdig k out = ⟨(Lib.decDigits k).toArray⟩ ++ out := by
  induction k using Nat.strongRecOn with
  | ind k ih =>
    intro out h
    rw [sdig_pos k h]
    have hm : (k : Int) % 10 = ((k % 10 : Nat) : Int) := by omega
    rw [hm, digit_one _ (by omega)]
    by_cases h10 : k < 10
    · rw [show k / 10 = 0 from by omega, sdig_zero, Lib.decDigits_one h10, Nat.mod_eq_of_lt h10]
    · rw [ih (k / 10) (by omega) _ (by omega), ← ByteArray.append_assoc]
      have e : Lib.decDigits k = Lib.decDigits (k / 10) ++ [UInt8.ofNat (48 + k % 10)] := by
        conv => lhs; rw [Lib.decDigits, dif_neg h10]
      rw [e]
      congr 1
theorem small_pow {m k : Nat} (h : m * 10 ^ k ≤ 9223372036854775808) (hm : m ≠ 0) : k ≤ 18 := by
  rcases Nat.lt_or_ge 18 k with hk | hk
  · exfalso
    have h1 : 10 ^ 19 ≤ 10 ^ k := Nat.pow_le_pow_right (by omega) hk
    have h2 : 1 * 10 ^ k ≤ m * 10 ^ k := Nat.mul_le_mul_right _ (by omega)
    have h3 : (10 : Nat) ^ 19 = 10000000000000000000 := by decide
    omega
  · exact hk
theorem next_pow {m k : Nat} (h : m * 10 ^ k ≤ 9223372036854775808) : m / 10 * 10 ^ (1 + k) ≤ 9223372036854775808 := by
  rw [Nat.pow_add, ← Nat.mul_assoc]
  have h1 : m / 10 * 10 ^ 1 ≤ m := by omega
  exact Nat.le_trans (Nat.mul_le_mul_right _ h1) h
def numT (n : Int) : ByteArray := ⟨(Lib.itoa n).toArray⟩
theorem numT_zero : numT 0 = ⟨#[48]⟩ := by unfold numT Lib.itoa; rw [if_neg (by omega), Int.toNat_zero, Lib.decDigits_one (by omega)]; rfl
set_option maxHeartbeats 800000 in
theorem spec_NumText (n : Int) (w : World) (hn : I64 n) :
    Calls Tryz.prog 113 #[.int .i64 n] w fun e w' => e = .returned (.string (numT n)) ∧ Below w.heap.size w w' := by
  obtain ⟨hn0, hn1⟩ := hn
  by_cases hz : n = 0
  · subst hz
    go_enter Tryz.func113, Tryz.ntmps113
    go_wp2
    go_ret
    exact ⟨by rw [numT_zero]; rfl, by go_grown⟩
  · by_cases hp : 0 < n
    · obtain ⟨u, rfl⟩ : ∃ u : Nat, n = u := ⟨n.toNat, by omega⟩
      have hzb : ((u : Int) == 0) = false := by rw [beq_eq_false_iff_ne]; omega
      have HT := Lib.hid (show numT u = sdig u ⟨#[]⟩ from by rw [sdig_dec u _ (by omega)]; unfold numT Lib.itoa; rw [if_neg (by omega)]; simp; apply bytes_inj; simp)
      go_enter Tryz.func113, Tryz.ntmps113
      go_wp2_with fail
      go_loopw [3, 4, 5] (fun s q _ wr => ∃ (m : Nat) (o : ByteArray), q = .int .i64 m ∧ s = .string o ∧ m ≤ 9223372036854775807 ∧ o.size ≤ 19 ∧ Hid (m * 10 ^ o.size ≤ 9223372036854775808) ∧ Hid (sdig u ⟨#[]⟩ = sdig m o) ∧ Below w.heap.size w wr) (fun _ q _ _ => (intOf q).toNat)
      case atStart => exact ⟨u, ⟨#[]⟩, by go_num, rfl, by omega, by have h2 : (⟨#[]⟩ : ByteArray).size = 0 := rfl; omega, by have h2 : (⟨#[]⟩ : ByteArray).size = 0 := rfl; show _ ≤ _; rw [h2]; omega, rfl, Below.refl _ _⟩
      case round =>
        obtain ⟨m, o, rfl, rfl, hm1, hs, HPW, HM, hb⟩ := hrel
        by_cases hm : m = 0
        · subst hm
          go_wp2_with fail
          go_ret
          refine ⟨?_, hb⟩
          have h2 := HM.out
          rw [sdig_zero] at h2
          rw [HT.out, h2]; rfl
        · have hm0 : 0 < m := by omega
          have hmb : ((m : Int) == 0) = false := by rw [beq_eq_false_iff_ne]; omega
          have hcv := run_convert_bytes_arg (P := Tryz.prog) (wr.alloc (.cells #[.int .u8 (48 + (m : Int) % 10)] 5)) 22 5 Tryz.underlying22 Tryz.underlying5 wr.heap.size 0 1 1 [48 + (m : Int) % 10] rfl (by intro i hi; (obtain rfl : i = 0 := (by omega)); exact (Is.new wr _ _).cell 0 rfl) 9 Tryz.underlying9
          have hs18 := small_pow HPW.out hm
          have HPN := Lib.hid (next_pow HPW.out)
          have hd0 : ¬ ((m : Int) % 10 < 0) := by omega
          have HM2 := Lib.hid (HM.out.trans (sdig_pos m hm o))
          have hsz : (strOfNums [48 + (m : Int) % 10]).size = 1 := strOfNums_size _
          clear HM
          go_wp2_with fail
          go_roundw
          case rel => exact ⟨m / 10, _, by go_num, rfl, by omega, by rw [ByteArray.size_append]; omega, by show _ ≤ _; rw [ByteArray.size_append, hsz]; exact HPN.out, HM2.out, hb.trans ((below1 _ _).mono hb.size)⟩
          case measure => simp [intOf]; omega
    · obtain ⟨u, rfl⟩ : ∃ u : Nat, n = -(u : Int) := ⟨n.natAbs, by omega⟩
      have hzb : (-(u : Int) == 0) = false := by rw [beq_eq_false_iff_ne]; omega
      have hlt0 : -(u : Int) < 0 := by omega
      have HT := Lib.hid (show numT (-(u : Int)) = ⟨#[45]⟩ ++ sdig u ⟨#[]⟩ from by rw [sdig_dec u _ (by omega)]; unfold numT Lib.itoa; rw [if_pos (by omega)]; simp; apply bytes_inj; simp)
      go_enter Tryz.func113, Tryz.ntmps113
      go_wp2_with fail
      go_loopw [3, 4, 5] (fun s q _ wr => ∃ (m : Nat) (o : ByteArray), q = .int .i64 (-(m : Int)) ∧ s = .string o ∧ m ≤ 9223372036854775808 ∧ o.size ≤ 20 ∧ Hid (m * 10 ^ o.size ≤ 9223372036854775808) ∧ Hid (sdig u ⟨#[]⟩ = sdig m o) ∧ Below w.heap.size w wr) (fun _ q _ _ => (intOf q).natAbs)
      case atStart => exact ⟨u, ⟨#[]⟩, by go_num, rfl, by omega, by have h2 : (⟨#[]⟩ : ByteArray).size = 0 := rfl; omega, by have h2 : (⟨#[]⟩ : ByteArray).size = 0 := rfl; show _ ≤ _; rw [h2]; omega, rfl, Below.refl _ _⟩
      case round =>
        obtain ⟨m, o, rfl, rfl, hm1, hs, HPW, HM, hb⟩ := hrel
        by_cases hm : m = 0
        · subst hm
          go_wp2_with fail
          go_ret
          refine ⟨?_, hb⟩
          have h2 := HM.out
          rw [sdig_zero] at h2
          rw [HT.out, h2]; rfl
        · have hm0 : 0 < m := by omega
          have hmb : (-(m : Int) == 0) = false := by rw [beq_eq_false_iff_ne]; omega
          have hcv := run_convert_bytes_arg (P := Tryz.prog) (wr.alloc (.cells #[.int .u8 (48 + (m : Int) % 10)] 5)) 22 5 Tryz.underlying22 Tryz.underlying5 wr.heap.size 0 1 1 [48 + (m : Int) % 10] rfl (by intro i hi; (obtain rfl : i = 0 := (by omega)); exact (Is.new wr _ _).cell 0 rfl) 9 Tryz.underlying9
          have hs18 := small_pow HPW.out hm
          have HPN := Lib.hid (next_pow HPW.out)
          have htm : (-(m : Int)).tmod 10 = -((m : Int) % 10) := by rw [Int.neg_tmod, Int.tmod_eq_emod_of_nonneg (by omega)]
          have htd : (-(m : Int)).tdiv 10 = -((m : Int) / 10) := by rw [Int.neg_tdiv, Int.tdiv_eq_ediv_of_nonneg (by omega)]
          have HM2 := Lib.hid (HM.out.trans (sdig_pos m hm o))
          have hsz : (strOfNums [48 + (m : Int) % 10]).size = 1 := strOfNums_size _
          clear HM
          by_cases hd : (m : Int) % 10 = 0
          · have HM3 := Lib.hid (show sdig u ⟨#[]⟩ = sdig (m / 10) (strOfNums [48] ++ o) from by have := HM2.out; rw [hd] at this; exact this)
            have hsz3 : (strOfNums [48]).size = 1 := strOfNums_size _
            have hcv3 := run_convert_bytes_arg (P := Tryz.prog) (wr.alloc (.cells #[.int .u8 48] 5)) 22 5 Tryz.underlying22 Tryz.underlying5 wr.heap.size 0 1 1 [48] rfl (by intro i hi; (obtain rfl : i = 0 := (by omega)); exact (Is.new wr _ _).cell 0 rfl) 9 Tryz.underlying9
            clear hcv hsz HM2
            go_wp2_with fail
            go_roundw
            case rel => exact ⟨m / 10, _, by go_num, rfl, by omega, by rw [ByteArray.size_append]; omega, by show _ ≤ _; rw [ByteArray.size_append, hsz3]; exact HPN.out, HM3.out, hb.trans ((below1 _ _).mono hb.size)⟩
            case measure => simp [intOf]; omega
          · have hd0 : -((m : Int) % 10) < 0 := by omega
            go_wp2_with fail
            go_roundw
            case rel => exact ⟨m / 10, _, by go_num, rfl, by omega, by rw [ByteArray.size_append]; omega, by show _ ≤ _; rw [ByteArray.size_append, hsz]; exact HPN.out, HM2.out, hb.trans ((below1 _ _).mono hb.size)⟩
            case measure => simp [intOf]; omega
theorem impl_NumText (n : Int) (w : World) (hn : I64 n) (htab : Lib.TabIs Tryz.prog w "internal/strconv.uint64pow10" .u64 Lib.pow10Tab) :
    Calls Tryz.prog 196 #[.int .i64 n] w fun e w' => e = .returned (.string (numT n)) ∧ Below w.heap.size w w' := by
  have h := Tryz.strconv_Itoa n hn.1 hn.2 w htab
  go_enter Tryz.func196, Tryz.ntmps196
  go_wp2_with fail
  refine h.mono ?_
  rintro e w2 ⟨rfl, k, os, rfl⟩
  go_wp2_with fail
  go_ret
  exact ⟨rfl, Go.Lib.below_grow _ w (Nat.le_refl _) k os⟩
def grW (n b0 b1 b2 b3 : Nat) : Nat × Nat :=
  if b0 < 128 then (b0, 1)
  else if 192 ≤ b0 ∧ b0 ≤ 223 then (if 2 ≤ n ∧ (128 ≤ b1 ∧ b1 ≤ 191) ∧ 128 ≤ (b0 - 192) * 64 + (b1 - 128) then ((b0 - 192) * 64 + (b1 - 128), 2) else (0, 0))
  else if 224 ≤ b0 ∧ b0 ≤ 239 then (if 3 ≤ n ∧ (128 ≤ b1 ∧ b1 ≤ 191) ∧ (128 ≤ b2 ∧ b2 ≤ 191) ∧ 2048 ≤ (b0 - 224) * 4096 + (b1 - 128) * 64 + (b2 - 128) ∧ ¬ (55296 ≤ (b0 - 224) * 4096 + (b1 - 128) * 64 + (b2 - 128) ∧ (b0 - 224) * 4096 + (b1 - 128) * 64 + (b2 - 128) ≤ 57343) then ((b0 - 224) * 4096 + (b1 - 128) * 64 + (b2 - 128), 3) else (0, 0))
  else if 240 ≤ b0 ∧ b0 ≤ 247 then (if 4 ≤ n ∧ (128 ≤ b1 ∧ b1 ≤ 191) ∧ (128 ≤ b2 ∧ b2 ≤ 191) ∧ (128 ≤ b3 ∧ b3 ≤ 191) ∧ 65536 ≤ (b0 - 240) * 262144 + (b1 - 128) * 4096 + (b2 - 128) * 64 + (b3 - 128) ∧ (b0 - 240) * 262144 + (b1 - 128) * 4096 + (b2 - 128) * 64 + (b3 - 128) ≤ 1114111 then ((b0 - 240) * 262144 + (b1 - 128) * 4096 + (b2 - 128) * 64 + (b3 - 128), 4) else (0, 0))
  else (0, 0)
set_option maxHeartbeats 4000000 in
theorem grW_decode (n b0 b1 b2 b3 : Nat) (hn : 1 ≤ n) (h0 : b0 < 256) (h1 : b1 < 256) (h2 : b2 < 256) (h3 : b3 < 256) :
    ((grW n b0 b1 b2 b3).2 = 0 ∧ Lib.decodeN n b0 b1 b2 b3 = (65533, 1)) ∨ ((grW n b0 b1 b2 b3).2 ≠ 0 ∧ Lib.decodeN n b0 b1 b2 b3 = grW n b0 b1 b2 b3 ∧ (grW n b0 b1 b2 b3).2 ≤ n ∧ ((grW n b0 b1 b2 b3).2 = 1 → (grW n b0 b1 b2 b3).1 < 128)) := by
  unfold grW Lib.decodeN
  by_cases c0 : b0 < 128
  · rw [if_pos c0]; right; exact ⟨by simp, by rw [if_pos c0], by simpa using hn, fun _ => c0⟩
  rw [if_neg c0, if_neg c0]
  by_cases c1 : 192 ≤ b0 ∧ b0 ≤ 223
  · rw [if_pos c1]
    by_cases d : 2 ≤ n ∧ (128 ≤ b1 ∧ b1 ≤ 191) ∧ 128 ≤ (b0 - 192) * 64 + (b1 - 128)
    · rw [if_pos d, if_pos (by omega), if_pos (by omega)]; right
      exact ⟨by simp, by apply Prod.ext <;> simp only <;> omega, by simp only; omega, by simp⟩
    · rw [if_neg d]; left
      refine ⟨rfl, ?_⟩
      by_cases e : b0 / 32 = 6 ∧ (1 < n ∧ b1 / 64 = 2)
      · rw [if_pos e, if_neg (by omega)]
      · rw [if_neg e, if_neg (by omega), if_neg (by omega)]
  rw [if_neg c1]
  by_cases c2 : 224 ≤ b0 ∧ b0 ≤ 239
  · rw [if_pos c2]
    by_cases d : 3 ≤ n ∧ (128 ≤ b1 ∧ b1 ≤ 191) ∧ (128 ≤ b2 ∧ b2 ≤ 191) ∧ 2048 ≤ (b0 - 224) * 4096 + (b1 - 128) * 64 + (b2 - 128) ∧ ¬ (55296 ≤ (b0 - 224) * 4096 + (b1 - 128) * 64 + (b2 - 128) ∧ (b0 - 224) * 4096 + (b1 - 128) * 64 + (b2 - 128) ≤ 57343)
    · rw [if_pos d, if_neg (by omega), if_pos (by omega), if_pos (by omega)]; right
      exact ⟨by simp, by apply Prod.ext <;> simp only <;> omega, by simp only; omega, by simp⟩
    · rw [if_neg d]; left
      refine ⟨rfl, ?_⟩
      rw [if_neg (by omega)]
      by_cases e : b0 / 16 = 14 ∧ (1 < n ∧ b1 / 64 = 2) ∧ (2 < n ∧ b2 / 64 = 2)
      · rw [if_pos e, if_neg (by omega)]
      · rw [if_neg e, if_neg (by omega)]
  rw [if_neg c2]
  by_cases c3 : 240 ≤ b0 ∧ b0 ≤ 247
  · rw [if_pos c3]
    by_cases d : 4 ≤ n ∧ (128 ≤ b1 ∧ b1 ≤ 191) ∧ (128 ≤ b2 ∧ b2 ≤ 191) ∧ (128 ≤ b3 ∧ b3 ≤ 191) ∧ 65536 ≤ (b0 - 240) * 262144 + (b1 - 128) * 4096 + (b2 - 128) * 64 + (b3 - 128) ∧ (b0 - 240) * 262144 + (b1 - 128) * 4096 + (b2 - 128) * 64 + (b3 - 128) ≤ 1114111
    · rw [if_pos d, if_neg (by omega), if_neg (by omega), if_pos (by omega), if_pos (by omega)]; right
      exact ⟨by simp, by apply Prod.ext <;> simp only <;> omega, by simp only; omega, by simp⟩
    · rw [if_neg d]; left
      refine ⟨rfl, ?_⟩
      rw [if_neg (by omega), if_neg (by omega)]
      by_cases e : b0 / 8 = 30 ∧ (1 < n ∧ b1 / 64 = 2) ∧ (2 < n ∧ b2 / 64 = 2) ∧ (3 < n ∧ b3 / 64 = 2)
      · rw [if_pos e, if_neg (by omega)]
      · rw [if_neg e]
  rw [if_neg c3]; left
  exact ⟨rfl, by rw [if_neg (by omega), if_neg (by omega), if_neg (by omega)]⟩
def grL (l : List UInt8) : Nat × Nat := grW l.length (l.getD 0 0).toNat (l.getD 1 0).toNat (l.getD 2 0).toNat (l.getD 3 0).toNat
theorem grL_cases (l : List UInt8) (hne : l ≠ []) : ((grL l).2 = 0 ∧ Lib.decodeL l = (65533, 1)) ∨ ((grL l).2 ≠ 0 ∧ Lib.decodeL l = grL l ∧ (grL l).2 ≤ l.length ∧ ((grL l).2 = 1 → (grL l).1 < 128)) := by
  have hl : 0 < l.length := List.length_pos_iff.2 hne
  rw [Lib.decodeL_N]
  exact grW_decode _ _ _ _ _ hl (l.getD 0 0).toNat_lt (l.getD 1 0).toNat_lt (l.getD 2 0).toNat_lt (l.getD 3 0).toNat_lt
theorem validD_gr (l : List UInt8) (hne : l ≠ []) : Lib.validD l = if (grL l).2 = 0 then false else Lib.validD (l.drop (grL l).2) := by
  rw [Lib.validD_step l hne]
  rcases grL_cases l hne with ⟨h1, h2⟩ | ⟨h1, h2, h3, h4⟩
  · rw [h2, if_pos h1]; simp
  · rw [h2, if_neg h1, if_neg (fun h => by have := h4 h.2; omega)]
end Go.Proofs.YtggdenkmohnijaaGreatDoor
