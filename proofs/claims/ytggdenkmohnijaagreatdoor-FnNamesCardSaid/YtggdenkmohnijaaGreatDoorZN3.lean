/- Texts of this proof, merged: Mark, App. No condition beyond what each theorem states. -/
import Derived.Test.YtggdenkmohnijaaGreatDoorZN2
import Derived.Deep.AppendLies
set_option linter.unusedSimpArgs false
set_option linter.unnecessarySimpa false
namespace Go.Proofs.YtggdenkmohnijaaGreatDoor
open Go.ChangeShapes Go.WideShapes Go.ChangeAt Go.RowKit Go.Joins
set_option linter.unusedVariables false
set_option maxRecDepth 100000
structure Touch (F : List Nat) (w w' : World) : Prop where
  os : w'.os = w.os
  tape : w'.tape = w.tape
  output : w'.output = w.output
  size : w.heap.size ≤ w'.heap.size
  block : ∀ f, f < w.heap.size → f ∉ F → w'.heap[f]? = w.heap[f]?
  unf : ∀ f, Unf w f → Unf w' f
theorem Touch.refl (F : List Nat) (w : World) : Touch F w w := ⟨rfl, rfl, rfl, Nat.le_refl _, fun _ _ _ => rfl, fun _ h => h⟩
theorem Touch.trans {F : List Nat} {w w1 w2 : World} (h : Touch F w w1) (k : Touch F w1 w2) : Touch F w w2 :=
  ⟨k.os.trans h.os, k.tape.trans h.tape, k.output.trans h.output, Nat.le_trans h.size k.size, fun f hf hn => (k.block f (Nat.lt_of_lt_of_le hf h.size) hn).trans (h.block f hf hn), fun f hf => k.unf f (h.unf f hf)⟩
theorem Touch.mono {F G : List Nat} {w w' : World} (h : Touch F w w') (hs : ∀ f ∈ F, f ∈ G) : Touch G w w' := ⟨h.os, h.tape, h.output, h.size, fun f hf hn => h.block f hf (fun hh => hn (hs f hh)), h.unf⟩
theorem Touch.of_below {F : List Nat} {w w' : World} (h : Below w.heap.size w w') : Touch F w w' :=
  ⟨h.os, h.tape, h.output, h.size, fun f hf _ => h.block f hf, fun f hf => hf.agree (h.block f hf.lt)⟩
theorem Touch.set (w : World) (b o : Nat) (v : Value) : Touch [b] w (w.setCell ⟨b, o, none⟩ v) := by
  refine ⟨rfl, rfl, rfl, by rw [size_set]; exact Nat.le_refl _, fun f _ hn => heap_miss w b o f (by simpa using hn) v, fun f ⟨c, e, h⟩ => ?_⟩
  by_cases hf : f = b
  · subst hf
    exact ⟨c.setIfInBounds o v, e, by simp [World.setCell, Array.getElem?_modify, h]⟩
  · exact ⟨c, e, (heap_miss w b o f hf v).trans h⟩
theorem Touch.below {F : List Nat} {w w' : World} {lo : Nat} (h : Touch F w w') (hl : lo ≤ w.heap.size) (hF : ∀ f ∈ F, lo ≤ f) : Below lo w w' :=
  ⟨h.os, h.tape, h.output, h.size, fun f hf => h.block f (by omega) (fun hm => by have := hF f hm; omega)⟩
section
variable {α : Type} {E : World → Nat → Nat → α → List Nat → Prop} {n : Nat}
theorem Row.split {w : World} {b : Nat} {A B : List α} {o : Nat} {F : List Nat} (h : Row E n w b o (A ++ B) F) : ∃ F1 F2, F = F1 ++ F2 ∧ Row E n w b o A F1 ∧ Row E n w b (o + A.length * n) B F2 := by
  induction A generalizing o F with
  | nil => exact ⟨[], F, rfl, rfl, by simpa using h⟩
  | cons x A ih =>
    obtain ⟨G1, G2, rfl, h1, h2⟩ := h
    obtain ⟨F1, F2, rfl, k1, k2⟩ := ih h2
    refine ⟨G1 ++ F1, F2, by simp, ⟨G1, F1, rfl, h1, k1⟩, ?_⟩
    rw [List.length_cons, Nat.add_mul, show o + (A.length * n + 1 * n) = o + n + A.length * n from by omega]
    exact k2
theorem Row.join {w : World} {b : Nat} {A B : List α} {o : Nat} {F1 F2 : List Nat} (h1 : Row E n w b o A F1) (h2 : Row E n w b (o + A.length * n) B F2) : Row E n w b o (A ++ B) (F1 ++ F2) := by
  induction A generalizing o F1 with
  | nil => obtain rfl : F1 = [] := h1; simpa using h2
  | cons x A ih =>
    obtain ⟨G1, G2, rfl, k1, k2⟩ := h1
    rw [List.append_assoc]
    refine ⟨G1, G2 ++ F2, rfl, k1, ih k2 ?_⟩
    rw [List.length_cons, Nat.add_mul, show o + (A.length * n + 1 * n) = o + n + A.length * n from by omega] at h2
    exact h2
theorem Row.put (hE : Loc E n) {w w' : World} {b o : Nat} {A B : List α} {x : α} {F : List Nat} (h : Row E n w b o (A ++ x :: B) F) (hF : F.Nodup) (hbF : b ∉ F) :
    ∃ G, (∀ f ∈ G, f ∈ F) ∧ E w b (o + A.length * n) x G ∧ G.Nodup ∧
      ∀ {w' : World} {y : α}, E w' b (o + A.length * n) y G → (∀ i, i < o + A.length * n ∨ o + A.length * n + n ≤ i → w'.cell? ⟨b, i, none⟩ = w.cell? ⟨b, i, none⟩) → (∀ f ∈ F, f ∉ G → w'.heap[f]? = w.heap[f]?) → Row E n w' b o (A ++ y :: B) F := by
  obtain ⟨F1, F2, rfl, h1, h2⟩ := h.split
  obtain ⟨G, F3, rfl, k1, k2⟩ := h2
  obtain ⟨n1, n2, n3⟩ := List.nodup_append.1 hF
  obtain ⟨m1, m2, m3⟩ := List.nodup_append.1 n2
  refine ⟨G, fun f hf => by simp [hf], k1, m1, fun {w' y} hy hc hf => ?_⟩
  refine Row.join (h1.agree hE _ (fun i _ hi => hc i (by omega)) (fun f hm => hf f (by simp [hm]) (fun hg => n3 f hm f (by simp [hg]) rfl))) ?_
  refine ⟨G, F3, rfl, hy, k2.agree hE _ (fun i hi _ => hc i (by omega)) (fun f hm => hf f (by simp [hm]) (fun hg => m3 f hg f hm rfl))⟩
def mkL (me : α → Int → α) (c : α → Nat) : List α → Int → List α
  | [], _ => []
  | x :: r, k => me x k :: mkL me c r (k + c x)
def cL' (c : α → Nat) : List α → Nat | [] => 0 | x :: r => c x + cL' c r
variable {me : α → Int → α} {c : α → Nat}
theorem mkL_length (l : List α) (k : Int) : (mkL me c l k).length = l.length := by
  induction l generalizing k with
  | nil => rfl
  | cons x r ih => simp [mkL, ih]
theorem mkL_snoc (l : List α) (x : α) (k : Int) : mkL me c (l ++ [x]) k = mkL me c l k ++ [me x (k + cL' c l)] := by
  induction l generalizing k with
  | nil => simp [mkL, cL']
  | cons y r ih => simp only [List.cons_append, mkL, ih, cL']; rw [show k + (c y : Int) + (cL' c r : Nat) = k + ((c y + cL' c r : Nat) : Int) from by omega]
def half (me : α → Int → α) (c : α → Nat) (l : List α) (k : Int) (j : Nat) : List α := mkL me c (l.take j) k ++ l.drop j
theorem half_zero (l : List α) (k : Int) : half me c l k 0 = l := by simp [half, mkL]
theorem half_all (l : List α) (k : Int) : half me c l k l.length = mkL me c l k := by simp [half]
theorem half_length (l : List α) (k : Int) (j : Nat) : (half me c l k j).length = l.length := by
  simp only [half, List.length_append, mkL_length, List.length_take, List.length_drop]; omega
theorem half_here (l : List α) (k : Int) (j : Nat) (h : j < l.length) : half me c l k j = mkL me c (l.take j) k ++ l[j] :: l.drop (j + 1) := by
  rw [half, List.drop_eq_getElem_cons h]
theorem half_succ (l : List α) (k : Int) (j : Nat) (h : j < l.length) : half me c l k (j + 1) = mkL me c (l.take j) k ++ me l[j] (k + cL' c (l.take j)) :: l.drop (j + 1) := by
  rw [half, take_snoc l j h, mkL_snoc, List.append_assoc]; rfl
theorem half_pre (l : List α) (k : Int) (j : Nat) (h : j < l.length) : (mkL me c (l.take j) k).length = j := by rw [mkL_length, List.length_take]; omega
def OwF (E : World → Nat → Nat → α → List Nat → Prop) (n : Nat) (w : World) (a : Option Addr) (cap : Nat) (l : List α) (F : List Nat) : Prop := Sl E n w a cap l F ∧ F.Nodup ∧ ∀ f ∈ F, Unf w f
theorem OwF.len {w : World} {a : Option Addr} {cap : Nat} {l : List α} {F : List Nat} (h : OwF E n w a cap l F) : l.length ≤ cap ∧ cap ≤ 9223372036854775807 := by
  have := h.1.2.1; unfold maxLen at this
  exact ⟨h.1.1, by omega⟩
theorem OwF.start {w : World} {a : Option Addr} {cap : Nat} {l : List α} {F : List Nat} (h : OwF E n w a cap l F) (k : Int) : OwF E n w a cap (half me c l k 0) F := by rw [half_zero]; exact h
theorem OwF.done {w : World} {a : Option Addr} {cap j : Nat} {l : List α} {F : List Nat} {k : Int} (h : OwF E n w a cap (half me c l k j) F) (hj : l.length = j) : OwF E n w a cap (mkL me c l k) F := by rw [← hj, half_all] at h; exact h
theorem OwF.next (hE : Loc E n) {w : World} {a : Option Addr} {cap j : Nat} {l : List α} {F : List Nat} {k : Int} (h : OwF E n w a cap (half me c l k j) F) (hj : j < l.length) :
    ∃ b o G, a = some ⟨b, o, none⟩ ∧ b ∈ F ∧ Unf w b ∧ b ∉ G ∧ (∀ f ∈ G, f ∈ F) ∧ G.Nodup ∧ E w b (o + j * n) l[j] G ∧
      ∀ w' : World, E w' b (o + j * n) (me l[j] (k + cL' c (l.take j))) G → (∀ i, i < o + j * n ∨ o + j * n + n ≤ i → w'.cell? ⟨b, i, none⟩ = w.cell? ⟨b, i, none⟩) → Touch (b :: G) w w' → OwF E n w' a cap (half me c l k (j + 1)) F := by
  obtain ⟨⟨h1, h2, h3, h4⟩, h5, h6⟩ := h
  have hne : half me c l k j ≠ [] := by intro e; have := half_length (me := me) (c := c) l k j; rw [e] at this; simp at this; omega
  obtain ⟨b, o, F', rfl, rfl, hr⟩ := h4 hne
  rw [half_here l k j hj] at hr
  obtain ⟨hb, hn⟩ := List.nodup_cons.1 h5
  have hp := half_pre (me := me) (c := c) l k j hj
  obtain ⟨G, g1, g2, g3, g4⟩ := Row.put hE (w' := w) hr hn hb
  rw [hp] at g2
  refine ⟨b, o, G, rfl, by simp, h6 b (by simp), fun hg => hb (g1 b hg), fun f hf => by simp [g1 f hf], g3, g2, fun w' hy hc ht => ?_⟩
  refine ⟨⟨by rw [half_length] at h1 ⊢; exact h1, h2, fun e => ?_, fun _ => ⟨b, o, F', rfl, rfl, ?_⟩⟩, h5, fun f hf => ht.unf f (h6 f hf)⟩
  · have := half_length (me := me) (c := c) l k (j + 1); rw [e] at this; simp at this; omega
  · rw [half_succ l k j hj]
    refine g4 (by rw [hp]; exact hy) (by rw [hp]; exact hc) (fun f hf hg => ht.block f (h6 f (by simp [hf])).lt ?_)
    rw [List.mem_cons]
    rintro (rfl | hh)
    · exact hb hf
    · exact hg hh
end
theorem Unf.frozen {w : World} {b : Nat} (hu : Unf w b) (i : Nat) : w.frozen? ⟨b, i, none⟩ = false := by
  obtain ⟨c, e, hc⟩ := hu
  simp only [World.frozen?, hc]; simp
theorem Unf.set {w : World} {b : Nat} (hu : Unf w b) (b' o : Nat) (v : Value) : Unf (w.setCell ⟨b', o, none⟩ v) b := (Touch.set w b' o v).unf b hu
theorem Touch.one {F : List Nat} {w0 w : World} (h : Touch F w0 w) {b : Nat} (hb : b ∈ F) (o : Nat) (v : Value) : Touch F w0 (w.setCell ⟨b, o, none⟩ v) := h.trans ((Touch.set w b o v).mono (by simpa using hb))
section
variable {α : Type}
structure Elem (E : World → Nat → Nat → α → List Nat → Prop) (n : Nat) : Prop where
  pos : 0 < n
  mov : ∀ (x : α) {w w' : World} {b o b' o' : Nat} {F : List Nat}, E w b o x F → (∀ i, i < n → w'.cell? ⟨b', o' + i, none⟩ = w.cell? ⟨b, o + i, none⟩) → Agree w w' F → E w' b' o' x F
  cel : ∀ (x : α) {w : World} {b o : Nat} {F : List Nat}, E w b o x F → ∀ i, i < n → ∃ u, w.cell? ⟨b, o + i, none⟩ = some u ∧ u.oneCell' = true
variable {E : World → Nat → Nat → α → List Nat → Prop} {n : Nat}
theorem Elem.loc (h : Elem E n) : Loc E n := fun x {w w' b o F} hx hc hF => h.mov x hx (fun i hi => hc (o + i) (by omega) (by omega)) hF
theorem Row.mov (hE : Elem E n) {w w' : World} {b b' : Nat} : ∀ (l : List α) {o o' : Nat} {F : List Nat}, Row E n w b o l F → (∀ i, i < l.length * n → w'.cell? ⟨b', o' + i, none⟩ = w.cell? ⟨b, o + i, none⟩) → Agree w w' F → Row E n w' b' o' l F := by
  intro l
  induction l with
  | nil => intro o o' F h _ _; exact h
  | cons t r ih =>
    intro o o' F h hb hF
    obtain ⟨F1, F2, rfl, h1, h2⟩ := h
    simp only [List.length_cons, Nat.add_mul, Nat.one_mul] at hb
    refine ⟨F1, F2, rfl, hE.mov t h1 (fun i hi => hb i (by omega)) hF.left, ih h2 (fun i hi => ?_) hF.right⟩
    have := hb (n + i) (by omega)
    rwa [show o' + (n + i) = o' + n + i from by omega, show o + (n + i) = o + n + i from by omega] at this
theorem Row.cel (hE : Elem E n) {w : World} {b : Nat} : ∀ (l : List α) {o : Nat} {F : List Nat}, Row E n w b o l F → ∀ i, i < l.length * n → ∃ u, w.cell? ⟨b, o + i, none⟩ = some u ∧ u.oneCell' = true := by
  intro l
  induction l with
  | nil => intro o F _ i hi; simp at hi
  | cons t r ih =>
    intro o F h i hi
    obtain ⟨F1, F2, rfl, h1, h2⟩ := h
    simp only [List.length_cons, Nat.add_mul, Nat.one_mul] at hi
    by_cases hin : i < n
    · exact hE.cel t h1 i hin
    · obtain ⟨u, hu, h⟩ := ih h2 (i - n) (by omega)
      rw [show o + n + (i - n) = o + i from by omega] at hu
      exact ⟨u, hu, h⟩
theorem Row.append {w : World} {b : Nat} {A B : List α} {o : Nat} {F1 F2 : List Nat} (h1 : Row E n w b o A F1) (h2 : Row E n w b (o + A.length * n) B F2) : Row E n w b o (A ++ B) (F1 ++ F2) := by
  induction A generalizing o F1 with
  | nil => obtain rfl : F1 = [] := h1; simpa using h2
  | cons x A ih =>
    obtain ⟨G1, G2, rfl, k1, k2⟩ := h1
    rw [List.append_assoc]
    refine ⟨G1, G2 ++ F2, rfl, k1, ih k2 ?_⟩
    rw [List.length_cons, Nat.add_mul, show o + (A.length * n + 1 * n) = o + n + A.length * n from by omega] at h2
    exact h2
def App (E : World → Nat → Nat → α → List Nat → Prop) (n : Nat) (e : TypeId) (nd : Prop) (w : World) (lo hi : Nat) (a : Option Addr) (cap : Nat) (l : List α) : Prop :=
  (a = none ∧ cap = 0 ∧ l = []) ∨ ∃ g cur F, a = some ⟨g, 0, none⟩ ∧ lo ≤ g ∧ g < hi ∧ w.heap[g]? = some (.cells cur e (0, 0)) ∧ l.length ≤ cap ∧ cap ≤ maxLen ∧ cur.size = cap * n ∧ Row E n w g 0 l F ∧ g ∉ F ∧ (nd → F.Nodup) ∧ ∀ f ∈ F, lo ≤ f ∧ f < hi ∧ Unf w f
variable {e : TypeId} {nd : Prop}
theorem App.nil (w : World) (lo hi : Nat) : App E n e nd w lo hi none 0 [] := Or.inl ⟨rfl, rfl, rfl⟩
theorem App.empty (w : World) (lo hi : Nat) (hl : lo ≤ w.heap.size) (hh : w.heap.size < hi) : App E n e nd (w.alloc (.cells #[] e)) lo hi (some ⟨w.heap.size, 0, none⟩) 0 [] :=
  Or.inr ⟨w.heap.size, #[], [], rfl, hl, hh, heap_alloc_new w _, Nat.le_refl _, by simp [maxLen], by simp, rfl, by simp, by simp, by simp⟩
theorem App.below (hE : Elem E n) {w w' : World} {lo hi cap m : Nat} {a : Option Addr} {l : List α} (h : App E n e nd w lo hi a cap l) (hb : Below m w w') (hm : hi ≤ m) : App E n e nd w' lo hi a cap l := by
  rcases h with h | ⟨g, cur, F, ha, h1, h2, h3, h4, h5, h6, h7, h8, h9, h10⟩
  · exact Or.inl h
  · refine Or.inr ⟨g, cur, F, ha, h1, h2, (hb.block g (by omega)).trans h3, h4, h5, h6, h7.agree hE.loc l (Cells.of_block (hb.block g (by omega)) _ _) (fun f hf => hb.block f (by have := (h10 f hf).2.1; omega)), h8, h9, fun f hf => ⟨(h10 f hf).1, (h10 f hf).2.1, (h10 f hf).2.2.agree (hb.block f (by have := (h10 f hf).2.1; omega))⟩⟩
theorem App.more {w : World} {lo hi lo' hi' cap : Nat} {a : Option Addr} {l : List α} (h : App E n e nd w lo hi a cap l) (h1 : lo' ≤ lo) (h2 : hi ≤ hi') : App E n e nd w lo' hi' a cap l := by
  rcases h with h | ⟨g, cur, F, ha, k1, k2, h3, h4, h5, h6, h7, h8, h9, h10⟩
  · exact Or.inl h
  · exact Or.inr ⟨g, cur, F, ha, by omega, by omega, h3, h4, h5, h6, h7, h8, h9, fun f hf => ⟨by have := (h10 f hf).1; omega, by have := (h10 f hf).2.1; omega, (h10 f hf).2.2⟩⟩
theorem App.len {w : World} {lo hi cap : Nat} {a : Option Addr} {l : List α} (h : App E n e nd w lo hi a cap l) : l.length ≤ cap ∧ cap ≤ 9223372036854775807 := by
  rcases h with ⟨_, rfl, rfl⟩ | ⟨g, cur, F, ha, k1, k2, h3, h4, h5, h6, h7, h8, h9, h10⟩
  · simp
  · unfold maxLen at h5; omega
theorem App.read {w : World} {lo hi cap : Nat} {a : Option Addr} {l : List α} (h : App E n e nd w lo hi a cap l) : Rd E n w hi a cap l := by
  rcases h with ⟨rfl, rfl, rfl⟩ | ⟨g, cur, F, rfl, k1, k2, h3, h4, h5, h6, h7, h8, h9, h10⟩
  · exact ⟨[], Sl.nil _ _ _ (by simp [maxLen]), by simp⟩
  · by_cases hl : l = []
    · subst hl; exact ⟨[], Sl.nil _ _ _ h5, by simp⟩
    · exact ⟨g :: F, ⟨h4, h5, fun h => absurd h hl, fun _ => ⟨g, 0, F, rfl, rfl, h7⟩⟩, by
        intro f hf
        rcases List.mem_cons.1 hf with rfl | hf
        · exact k2
        · exact (h10 f hf).2.1⟩
theorem App.own {w : World} {lo hi cap : Nat} {a : Option Addr} {l : List α} (h : App E n e True w lo hi a cap l) : Ow E n w lo hi a cap l := by
  rcases h with ⟨rfl, rfl, rfl⟩ | ⟨g, cur, F, rfl, k1, k2, h3, h4, h5, h6, h7, h8, h9, h10⟩
  · exact Ow.nil _ _ _ _ _ (by simp [maxLen])
  · by_cases hl : l = []
    · subst hl; exact Ow.nil _ _ _ _ _ h5
    · refine ⟨g :: F, ⟨h4, h5, fun h => absurd h hl, fun _ => ⟨g, 0, F, rfl, rfl, h7⟩⟩, List.nodup_cons.2 ⟨h8, h9 trivial⟩, ?_⟩
      intro f hf
      rcases List.mem_cons.1 hf with rfl | hf
      · exact ⟨k1, k2, ⟨_, _, h3⟩⟩
      · exact h10 f hf
theorem cells_list {w : World} {b o k : Nat} (h : ∀ i, i < k → ∃ u, w.cell? ⟨b, o + i, none⟩ = some u ∧ u.oneCell' = true) : ∃ cs : List Value, cs.length = k ∧ (∀ i, i < k → w.cell? ⟨b, o + i, none⟩ = cs[i]?) ∧ ∀ u ∈ cs, u.oneCell' = true := by
  induction k with
  | zero => exact ⟨[], rfl, by simp, by simp⟩
  | succ k ih =>
    obtain ⟨cs, h1, h2, h3⟩ := ih (fun i hi => h i (by omega))
    obtain ⟨u, hu, ho⟩ := h k (by omega)
    refine ⟨cs ++ [u], by simp [h1], fun i hi => ?_, fun v hv => ?_⟩
    · by_cases hik : i < k
      · rw [h2 i hik, List.getElem?_append_left (by omega)]
      · obtain rfl : i = k := by omega
        rw [hu, List.getElem?_append_right (by omega), h1]; simp
    · rcases List.mem_append.1 hv with hv | hv
      · exact h3 v hv
      · simp at hv; subst hv; exact ho
theorem App.grown (hE : Elem E n) {w w' : World} {lo hi cap cap' : Nat} {a : Option Addr} {l ys : List α} {b o g' : Nat} {G : List Nat} {news xs : List Value}
    (h : App E n e nd w lo hi a cap l) (hhi : hi ≤ w.heap.size) (hys : Row E n w b o ys G) (hG : nd → G.Nodup) (hG2 : ∀ f ∈ G, lo ≤ f ∧ f < w.heap.size ∧ Unf w f ∧ ∀ k, (Value.slice a l.length cap).ownBlock = some k → f ≠ k) (hG3 : nd → ∀ f ∈ G, hi ≤ f)
    (hnl : news.length = ys.length * n) (hnc : ∀ i, i < ys.length * n → w.cell? ⟨b, o + i, none⟩ = news[i]?) (hxs : ∀ g, a = some ⟨g, 0, none⟩ → ∀ i, i < l.length * n → w.cell? ⟨g, 0 + i, none⟩ = xs[i]?) (hxl : xs.length = l.length * n)
    (hown : w'.ownsRow lo e n (.slice (some ⟨g', 0, none⟩) (l.length + ys.length) cap') (l.length + ys.length) (xs ++ news)) (hgr : w.grownBy w' (Value.slice a l.length cap).ownBlock) (hat : (Value.slice a l.length cap).ownBlock = some g' ∨ g' = w.heap.size) (hlt : g' < w'.heap.size) :
    App E n e nd w' lo w'.heap.size (some ⟨g', 0, none⟩) cap' (l ++ ys) ∧ (lo ≤ w.heap.size → Below lo w w') ∧ (∀ f, f < w.heap.size → (∀ k, (Value.slice a l.length cap).ownBlock = some k → f ≠ k) → w'.heap[f]? = w.heap[f]?) := by
  have hsz := hgr.size
  have hout : ∀ f, f < w.heap.size → (∀ k, (Value.slice a l.length cap).ownBlock = some k → f ≠ k) → w'.heap[f]? = w.heap[f]? := fun f hf hk => hgr.block f hf (fun e => hk f e.symm rfl)
  have hrow : ∃ cur, w'.heap[g']? = some (.cells cur e (0, 0)) ∧ l.length + ys.length ≤ cap' ∧ cap' ≤ maxLen ∧ cur.size = cap' * n ∧ cur.toList.take ((l.length + ys.length) * n) = xs ++ news ∧ lo ≤ g' := by
    rcases hown.2 with ⟨h0, _⟩ | ⟨g, cap2, cur, hv, hb, hg, h1, h2, h3, h4⟩
    · cases h0
    · injection hv with hv1 hv2 hv3
      injection hv1 with hv1
      injection hv1 with hv1
      subst hv1 hv3
      exact ⟨cur, hg, h1, h2, h3, h4, hb⟩
  obtain ⟨cur, r1, r2, r3, r4, r5, r6⟩ := hrow
  have hcell : ∀ i, i < (l.length + ys.length) * n → w'.cell? ⟨g', i, none⟩ = (xs ++ news)[i]? := by
    intro i hi
    rw [← r5, List.getElem?_take, if_pos hi]
    have hle : (l.length + ys.length) * n ≤ cap' * n := Nat.mul_le_mul_right _ r2
    simp [World.cell?, r1]
  have hmul : (l.length + ys.length) * n = l.length * n + ys.length * n := Nat.add_mul _ _ _
  refine ⟨?_, fun hl => ⟨hgr.os, hgr.tape, hgr.output, hgr.size, fun k hk => hgr.block k (by omega) ?_⟩, hout⟩
  · have hyr : Row E n w' g' (0 + l.length * n) ys G := by
      refine hys.mov hE ys (fun i hi => ?_) (fun f hf => hout f (hG2 f hf).2.1 (hG2 f hf).2.2.2)
      rw [Nat.zero_add, hcell _ (by omega), List.getElem?_append_right (by omega), hnc i hi, hxl]
      congr 1; omega
    have hgG : g' ∉ G := by
      intro hm
      rcases hat with h1 | h1
      · exact (hG2 g' hm).2.2.2 g' h1 rfl
      · have := (hG2 g' hm).2.1; omega
    rcases h with ⟨rfl, rfl, rfl⟩ | ⟨g, cur0, F, rfl, k1, k2, h3, h4, h5, h6, h7, h8, h9, h10⟩
    · refine Or.inr ⟨g', cur, G, rfl, r6, hlt, r1, by simpa using r2, r3, r4, by simpa using hyr, hgG, hG, fun f hf => ⟨(hG2 f hf).1, by have := (hG2 f hf).2.1; omega, (hG2 f hf).2.2.1.agree (hout f (hG2 f hf).2.1 (hG2 f hf).2.2.2)⟩⟩
    · have hFo : ∀ f ∈ F, w'.heap[f]? = w.heap[f]? := fun f hf => hout f (by have := (h10 f hf).2.1; omega) (fun k hk => by simp only [Value.ownBlock, Option.some.injEq] at hk; subst hk; rintro rfl; exact h8 hf)
      have hlr : Row E n w' g' 0 l F := by
        refine h7.mov hE l (fun i hi => ?_) hFo
        rw [Nat.zero_add, hcell _ (by omega), List.getElem?_append_left (by omega)]
        have := hxs g rfl i hi
        rw [Nat.zero_add] at this
        exact this.symm
      have hgF : g' ∉ F := by
        intro hm
        rcases hat with h1 | h1
        · simp only [Value.ownBlock, Option.some.injEq] at h1; subst h1; exact h8 hm
        · have := (h10 g' hm).2.1; omega
      refine Or.inr ⟨g', cur, F ++ G, rfl, r6, hlt, r1, by simpa using r2, r3, r4, hlr.append hyr, by simp [hgF, hgG], fun hnd => ?_, fun f hf => ?_⟩
      · rw [List.nodup_append]
        refine ⟨h9 hnd, hG hnd, ?_⟩
        intro x hx y hy e
        have := (h10 x hx).2.1
        have := hG3 hnd y hy
        omega
      · rcases List.mem_append.1 hf with hf | hf
        · exact ⟨(h10 f hf).1, by have := (h10 f hf).2.1; omega, (h10 f hf).2.2.agree (hFo f hf)⟩
        · exact ⟨(hG2 f hf).1, by have := (hG2 f hf).2.1; omega, (hG2 f hf).2.2.1.agree (hout f (hG2 f hf).2.1 (hG2 f hf).2.2.2)⟩
  · intro hk2
    rcases h with ⟨rfl, rfl, rfl⟩ | ⟨g, cur0, F, rfl, k1, k2, _⟩
    · simp [Value.ownBlock] at hk2
    · simp [Value.ownBlock] at hk2; omega
theorem App.owns {w : World} {lo hi cap : Nat} {a : Option Addr} {l : List α} (hE : Elem E n) (h : App E n e nd w lo hi a cap l) :
    ∃ xs : List Value, w.ownsRow lo e n (.slice a l.length cap) l.length xs ∧ xs.length = l.length * n ∧ ∀ g, a = some ⟨g, 0, none⟩ → ∀ i, i < l.length * n → w.cell? ⟨g, 0 + i, none⟩ = xs[i]? := by
  rcases h with ⟨rfl, rfl, rfl⟩ | ⟨g, cur, F, rfl, k1, k2, h3, h4, h5, h6, h7, h8, h9, h10⟩
  · exact ⟨[], World.ownsRow_nil _ _ _ _, by simp, by simp⟩
  · have hle : l.length * n ≤ cur.size := by rw [h6]; exact Nat.mul_le_mul_right _ h4
    have hl : (cur.toList.take (l.length * n)).length = l.length * n := by simp; omega
    refine ⟨cur.toList.take (l.length * n), ⟨hl, Or.inr ⟨g, cap, cur, rfl, k1, h3, h4, h5, h6, rfl⟩⟩, hl, ?_⟩
    intro g2 hg2 i hi
    injection hg2 with hg2
    injection hg2 with hg2
    subst hg2
    rw [Nat.zero_add, List.getElem?_take, if_pos hi]
    simp [World.cell?, h3]
theorem wpList_app {P : Program} {w : World} (hE : Elem E n) {ops : Array Oper} {rest : List Oper} {o : Oper} {act : Act} {Q : Exit → Act → World → Prop} (hgd : o.guard = none) (s x : Operand) (t : TypeId)
    (ho : o.op = .call { callee := .builtin .append, args := #[s, x], argTypes := #[t, t] }) (z : Value) (bytes : Nat) (ht : P.underlying t = some (.slice e)) (hinfo : (P.info? e).map (fun i => (i.zero, i.size, i.bytes)) = some (some z, n, bytes)) (hzs : z.cells.size = n)
    (lo hi : Nat) (a : Option Addr) (cap : Nat) (l : List α) (hs : act.eval s = .slice a l.length cap) (happ : App E n e nd w lo hi a cap l) (hhi : hi ≤ w.heap.size) (hlo : lo ≤ w.heap.size)
    (b off m c : Nat) (ys : List α) (G : List Nat) (hx : act.eval x = .slice (some ⟨b, off, none⟩) m c) (hm : ys.length = m) (hys : Row E n w b off ys G) (hG : nd → G.Nodup) (hG2 : ∀ f ∈ G, lo ≤ f ∧ f < w.heap.size ∧ Unf w f ∧ ∀ k, (Value.slice a l.length cap).ownBlock = some k → f ≠ k) (hG3 : nd → ∀ f ∈ G, hi ≤ f)
    (hpos : 0 < m) (h63 : l.length + m ≤ maxLen) (hbytes : (l.length + m) * bytes ≤ 140737488355328)
    (h : ∀ a' cap' w', App E n e nd w' lo w'.heap.size a' cap' (l ++ ys) → Below lo w w' → (∀ f, f < w.heap.size → (∀ k, (Value.slice a l.length cap).ownBlock = some k → f ≠ k) → w'.heap[f]? = w.heap[f]?) → wpList P ops Q rest (act.put o.dst (.slice a' (l ++ ys).length cap')) w') : wpList P ops Q (o :: rest) act w := by
  obtain ⟨i, hi', hz0, hz1, hz2⟩ := info_parts hinfo
  obtain ⟨xs, q1, q2, q3⟩ := happ.owns hE
  subst hm
  obtain ⟨news, n1, n2, n3⟩ := cells_list (hys.cel hE ys)
  refine wpList_append_lies w hgd s x t ho lo e i z n bytes ht hi' hz0 hz1 hz2 hzs hE.pos (.slice a l.length cap) l.length xs hs q1 ⟨b, off, none⟩ ys.length c news hx n1 (fun j u hj => ?_) n3 hpos h63 hbytes hlo w.heap.size rfl (fun g' cap' w' hown hgr hat hlt => ?_)
  · have hj2 : j < ys.length * n := by
      rcases Nat.lt_or_ge j (ys.length * n) with h | h
      · exact h
      · rw [List.getElem?_eq_none (by omega)] at hj; cases hj
    rw [← hj, ← n2 j hj2, Addr.add_lit]
  · obtain ⟨r1, r2, r3⟩ := App.grown hE happ hhi hys hG hG2 hG3 n1 n2 q3 q2 hown hgr hat hlt
    have := h _ _ w' r1 (r2 hlo) r3
    rwa [List.length_append] at this
end
theorem EInt.elem : Elem EInt 1 := by
  refine ⟨by omega, ?_, ?_⟩
  · intro x w w' b o b' o' F h hc _
    exact ⟨h.1, by have := hc 0 (by omega); rw [Nat.add_zero, Nat.add_zero] at this; rw [this]; exact h.2.1, h.2.2⟩
  · intro x w b o F h i hi
    obtain rfl : i = 0 := by omega
    exact ⟨_, h.2.1, rfl⟩
theorem EByte.elem : Elem EByte 1 := by
  refine ⟨by omega, ?_, ?_⟩
  · intro x w w' b o b' o' F h hc _
    exact ⟨h.1, by have := hc 0 (by omega); rw [Nat.add_zero, Nat.add_zero] at this; rw [this]; exact h.2.1, h.2.2⟩
  · intro x w b o F h i hi
    obtain rfl : i = 0 := by omega
    exact ⟨_, h.2.1, rfl⟩
theorem EStep.elem : Elem EStep 2 := by
  refine ⟨by omega, ?_, ?_⟩
  · intro x w w' b o b' o' F h hc _
    have h0 := hc 0 (by omega)
    have h1 := hc 1 (by omega)
    rw [Nat.add_zero, Nat.add_zero] at h0
    exact ⟨h.1, by rw [h0]; exact h.2.1, by rw [h1]; exact h.2.2.1, h.2.2.2⟩
  · intro x w b o F h i hi
    rcases (by omega : i = 0 ∨ i = 1) with rfl | rfl
    · exact ⟨_, h.2.1, rfl⟩
    · exact ⟨_, h.2.2.1, rfl⟩
theorem ELoss.elem : Elem ELoss 2 := by
  refine ⟨by omega, ?_, ?_⟩
  · intro x w w' b o b' o' F h hc hF
    have h0 := hc 0 (by omega)
    have h1 := hc 1 (by omega)
    rw [Nat.add_zero, Nat.add_zero] at h0
    obtain ⟨k1, k2, a, cap, k3, k4⟩ := h
    exact ⟨by rw [h0]; exact k1, k2, a, cap, by rw [h1]; exact k3, k4.agree EStep.loc hF⟩
  · intro x w b o F h i hi
    obtain ⟨k1, k2, a, cap, k3, k4⟩ := h
    rcases (by omega : i = 0 ∨ i = 1) with rfl | rfl
    · exact ⟨_, k1, rfl⟩
    · exact ⟨_, k3, rfl⟩
end Go.Proofs.YtggdenkmohnijaaGreatDoor
