/- Texts of this proof, merged: App, Sho, MarkV, LawVal, Tree1, Same2. No condition beyond what each theorem states. -/
import Derived.Deep.AppendLies
import Derived.Test.YtggdenkmohnijaaGreatDoorZO2
import Derived.Deep.DeepCutAuto
import Derived.Laws.BytesArg
set_option linter.unusedSimpArgs false
set_option linter.unnecessarySimpa false
namespace Go.Proofs.YtggdenkmohnijaaGreatDoor
open Go.ChangeShapes Go.WideShapes Go.ChangeAt Go.RowKit Go.Joins
set_option linter.unusedVariables false
set_option maxRecDepth 100000
section
variable {α : Type}
structure Elem (E : World → Nat → Nat → α → List Nat → Prop) (n : Nat) : Prop where
 pos : 0 < n
 mov : ∀ (x : α) {w w' : World} {b o b' o' : Nat} {F : List Nat}, E w b o x F → (∀ i, i < n → w'.cell? ⟨b', o' + i, none⟩ = w.cell? ⟨b, o + i, none⟩) → Agree w w' F → E w' b' o' x F
 cel : ∀ (x : α) {w : World} {b o : Nat} {F : List Nat}, E w b o x F → ∀ i, i < n → ∃ u, w.cell? ⟨b, o + i, none⟩ = some u ∧ u.oneCell' = true
variable {E : World → Nat → Nat → α → List Nat → Prop} {n : Nat}
theorem Elem.loc (h : Elem E n) : Loc E n := fun x {w w' b o F} hx hc hF => h.mov x hx (fun i hi => hc (o + i) (by omega) (by omega)) hF
theorem Row.mov (hE : Elem E n) {w w' : World} {b b' : Nat} : ∀ (l : List α) {o o' : Nat} {F : List Nat}, Row E n w b o l F → (∀ i, i < l.length * n → w'.cell? ⟨b', o' + i, none⟩ = w.cell? ⟨b, o + i, none⟩) → Agree w w' F → Row E n w' b' o' l F := by
 intro l
 induction l with
 | nil => intro o o' F h _ _; exact h
 | cons t r ih =>
  intro o o' F h hb hF
  obtain ⟨F1, F2, rfl, h1, h2⟩ := h
  simp only [List.length_cons, Nat.add_mul, Nat.one_mul] at hb
  refine ⟨F1, F2, rfl, hE.mov t h1 (fun i hi => hb i (by omega)) hF.left, ih h2 (fun i hi => ?_) hF.right⟩
  have := hb (n + i) (by omega)
  rwa [show o' + (n + i) = o' + n + i from by omega, show o + (n + i) = o + n + i from by omega] at this
theorem Row.cel (hE : Elem E n) {w : World} {b : Nat} : ∀ (l : List α) {o : Nat} {F : List Nat}, Row E n w b o l F → ∀ i, i < l.length * n → ∃ u, w.cell? ⟨b, o + i, none⟩ = some u ∧ u.oneCell' = true := by
 intro l
 induction l with
 | nil => intro o F _ i hi; simp at hi
 | cons t r ih =>
  intro o F h i hi
  obtain ⟨F1, F2, rfl, h1, h2⟩ := h
  simp only [List.length_cons, Nat.add_mul, Nat.one_mul] at hi
  by_cases hin : i < n
  ·exact hE.cel t h1 i hin
  ·obtain ⟨u, hu, h⟩ := ih h2 (i - n) (by omega)
   rw [show o + n + (i - n) = o + i from by omega] at hu
   exact ⟨u, hu, h⟩
theorem Row.append {w : World} {b : Nat} {A B : List α} {o : Nat} {F1 F2 : List Nat} (h1 : Row E n w b o A F1) (h2 : Row E n w b (o + A.length * n) B F2) : Row E n w b o (A ++ B) (F1 ++ F2) := by
 induction A generalizing o F1 with
 | nil => obtain rfl : F1 = [] := h1; simpa using h2
 | cons x A ih =>
  obtain ⟨G1, G2, rfl, k1, k2⟩ := h1
  rw [List.append_assoc]
  refine ⟨G1, G2 ++ F2, rfl, k1, ih k2 ?_⟩
  rw [List.length_cons, Nat.add_mul, show o + (A.length * n + 1 * n) = o + n + A.length * n from by omega] at h2
  exact h2
def App (E : World → Nat → Nat → α → List Nat → Prop) (n : Nat) (e : TypeId) (nd : Prop) (w : World) (lo hi : Nat) (a : Option Addr) (cap : Nat) (l : List α) : Prop :=
 (a = none ∧ cap = 0 ∧ l = []) ∨ ∃ g cur F, a = some ⟨g, 0, none⟩ ∧ lo ≤ g ∧ g < hi ∧ w.heap[g]? = some (.cells cur e (0, 0)) ∧ l.length ≤ cap ∧ cap ≤ maxLen ∧ cur.size = cap * n ∧ Row E n w g 0 l F ∧ g ∉ F ∧ (nd → F.Nodup) ∧ ∀ f ∈ F, lo ≤ f ∧ f < hi ∧ Unf w f
variable {e : TypeId} {nd : Prop}
theorem App.nil (w : World) (lo hi : Nat) : App E n e nd w lo hi none 0 [] := Or.inl ⟨rfl, rfl, rfl⟩
theorem App.empty (w : World) (lo hi : Nat) (hl : lo ≤ w.heap.size) (hh : w.heap.size < hi) : App E n e nd (w.alloc (.cells #[] e)) lo hi (some ⟨w.heap.size, 0, none⟩) 0 [] :=
 Or.inr ⟨w.heap.size, #[], [], rfl, hl, hh, heap_alloc_new w _, Nat.le_refl _, by simp [maxLen], by simp, rfl, by simp, by simp, by simp⟩
theorem App.below (hE : Elem E n) {w w' : World} {lo hi cap m : Nat} {a : Option Addr} {l : List α} (h : App E n e nd w lo hi a cap l) (hb : Below m w w') (hm : hi ≤ m) : App E n e nd w' lo hi a cap l := by
 rcases h with h | ⟨g, cur, F, ha, h1, h2, h3, h4, h5, h6, h7, h8, h9, h10⟩
 ·exact Or.inl h
 ·refine Or.inr ⟨g, cur, F, ha, h1, h2, (hb.block g (by omega)).trans h3, h4, h5, h6, h7.agree hE.loc l (Cells.of_block (hb.block g (by omega)) _ _) (fun f hf => hb.block f (by have := (h10 f hf).2.1; omega)), h8, h9, fun f hf => ⟨(h10 f hf).1, (h10 f hf).2.1, (h10 f hf).2.2.agree (hb.block f (by have := (h10 f hf).2.1; omega))⟩⟩
theorem App.more {w : World} {lo hi lo' hi' cap : Nat} {a : Option Addr} {l : List α} (h : App E n e nd w lo hi a cap l) (h1 : lo' ≤ lo) (h2 : hi ≤ hi') : App E n e nd w lo' hi' a cap l := by
 rcases h with h | ⟨g, cur, F, ha, k1, k2, h3, h4, h5, h6, h7, h8, h9, h10⟩
 ·exact Or.inl h
 ·exact Or.inr ⟨g, cur, F, ha, by omega, by omega, h3, h4, h5, h6, h7, h8, h9, fun f hf => ⟨by have := (h10 f hf).1; omega, by have := (h10 f hf).2.1; omega, (h10 f hf).2.2⟩⟩
theorem App.len {w : World} {lo hi cap : Nat} {a : Option Addr} {l : List α} (h : App E n e nd w lo hi a cap l) : l.length ≤ cap ∧ cap ≤ 9223372036854775807 := by
 rcases h with ⟨_, rfl, rfl⟩ | ⟨g, cur, F, ha, k1, k2, h3, h4, h5, h6, h7, h8, h9, h10⟩
 ·simp
 ·unfold maxLen at h5; omega
theorem App.read {w : World} {lo hi cap : Nat} {a : Option Addr} {l : List α} (h : App E n e nd w lo hi a cap l) : Rd E n w hi a cap l := by
 rcases h with ⟨rfl, rfl, rfl⟩ | ⟨g, cur, F, rfl, k1, k2, h3, h4, h5, h6, h7, h8, h9, h10⟩
 ·exact ⟨[], Sl.nil _ _ _ (by simp [maxLen]), by simp⟩
 ·by_cases hl : l = []
  ·subst hl; exact ⟨[], Sl.nil _ _ _ h5, by simp⟩
  ·exact ⟨g :: F, ⟨h4, h5, fun h => absurd h hl, fun _ => ⟨g, 0, F, rfl, rfl, h7⟩⟩, by
    intro f hf
    rcases List.mem_cons.1 hf with rfl | hf
    ·exact k2
    ·exact (h10 f hf).2.1⟩
theorem App.own {w : World} {lo hi cap : Nat} {a : Option Addr} {l : List α} (h : App E n e True w lo hi a cap l) : Ow E n w lo hi a cap l := by
 rcases h with ⟨rfl, rfl, rfl⟩ | ⟨g, cur, F, rfl, k1, k2, h3, h4, h5, h6, h7, h8, h9, h10⟩
 ·exact Ow.nil _ _ _ _ _ (by simp [maxLen])
 ·by_cases hl : l = []
  ·subst hl; exact Ow.nil _ _ _ _ _ h5
  ·refine ⟨g :: F, ⟨h4, h5, fun h => absurd h hl, fun _ => ⟨g, 0, F, rfl, rfl, h7⟩⟩, List.nodup_cons.2 ⟨h8, h9 trivial⟩, ?_⟩
   intro f hf
   rcases List.mem_cons.1 hf with rfl | hf
   ·exact ⟨k1, k2, ⟨_, _, h3⟩⟩
   ·exact h10 f hf
theorem cells_list {w : World} {b o k : Nat} (h : ∀ i, i < k → ∃ u, w.cell? ⟨b, o + i, none⟩ = some u ∧ u.oneCell' = true) : ∃ cs : List Value, cs.length = k ∧ (∀ i, i < k → w.cell? ⟨b, o + i, none⟩ = cs[i]?) ∧ ∀ u ∈ cs, u.oneCell' = true := by
 induction k with
 | zero => exact ⟨[], rfl, by simp, by simp⟩
 | succ k ih =>
  obtain ⟨cs, h1, h2, h3⟩ := ih (fun i hi => h i (by omega))
  obtain ⟨u, hu, ho⟩ := h k (by omega)
  refine ⟨cs ++ [u], by simp [h1], fun i hi => ?_, fun v hv => ?_⟩
  ·by_cases hik : i < k
   ·rw [h2 i hik, List.getElem?_append_left (by omega)]
   ·obtain rfl : i = k := by omega
    rw [hu, List.getElem?_append_right (by omega), h1]; simp
  ·rcases List.mem_append.1 hv with hv | hv
   ·exact h3 v hv
   ·simp at hv; subst hv; exact ho
theorem App.grown (hE : Elem E n) {w w' : World} {lo hi cap cap' : Nat} {a : Option Addr} {l ys : List α} {b o g' : Nat} {G : List Nat} {news xs : List Value}
  (h : App E n e nd w lo hi a cap l) (hhi : hi ≤ w.heap.size) (hys : Row E n w b o ys G) (hG : nd → G.Nodup) (hG2 : ∀ f ∈ G, lo ≤ f ∧ f < w.heap.size ∧ Unf w f ∧ ∀ k, (Value.slice a l.length cap).ownBlock = some k → f ≠ k) (hG3 : nd → ∀ f ∈ G, hi ≤ f)
  (hnl : news.length = ys.length * n) (hnc : ∀ i, i < ys.length * n → w.cell? ⟨b, o + i, none⟩ = news[i]?) (hxs : ∀ g, a = some ⟨g, 0, none⟩ → ∀ i, i < l.length * n → w.cell? ⟨g, 0 + i, none⟩ = xs[i]?) (hxl : xs.length = l.length * n)
  (hown : w'.ownsRow lo e n (.slice (some ⟨g', 0, none⟩) (l.length + ys.length) cap') (l.length + ys.length) (xs ++ news)) (hgr : w.grownBy w' (Value.slice a l.length cap).ownBlock) (hat : (Value.slice a l.length cap).ownBlock = some g' ∨ g' = w.heap.size) (hlt : g' < w'.heap.size) :
  App E n e nd w' lo w'.heap.size (some ⟨g', 0, none⟩) cap' (l ++ ys) ∧ (lo ≤ w.heap.size → Below lo w w') ∧ (∀ f, f < w.heap.size → (∀ k, (Value.slice a l.length cap).ownBlock = some k → f ≠ k) → w'.heap[f]? = w.heap[f]?) := by
 have hsz := hgr.size
 have hout : ∀ f, f < w.heap.size → (∀ k, (Value.slice a l.length cap).ownBlock = some k → f ≠ k) → w'.heap[f]? = w.heap[f]? := fun f hf hk => hgr.block f hf (fun e => hk f e.symm rfl)
 have hrow : ∃ cur, w'.heap[g']? = some (.cells cur e (0, 0)) ∧ l.length + ys.length ≤ cap' ∧ cap' ≤ maxLen ∧ cur.size = cap' * n ∧ cur.toList.take ((l.length + ys.length) * n) = xs ++ news ∧ lo ≤ g' := by
  rcases hown.2 with ⟨h0, _⟩ | ⟨g, cap2, cur, hv, hb, hg, h1, h2, h3, h4⟩
  ·cases h0
  ·injection hv with hv1 hv2 hv3
   injection hv1 with hv1
   injection hv1 with hv1
   subst hv1 hv3
   exact ⟨cur, hg, h1, h2, h3, h4, hb⟩
 obtain ⟨cur, r1, r2, r3, r4, r5, r6⟩ := hrow
 have hcell : ∀ i, i < (l.length + ys.length) * n → w'.cell? ⟨g', i, none⟩ = (xs ++ news)[i]? := by
  intro i hi
  rw [← r5, List.getElem?_take, if_pos hi]
  have hle : (l.length + ys.length) * n ≤ cap' * n := Nat.mul_le_mul_right _ r2
  simp [World.cell?, r1]
 have hmul : (l.length + ys.length) * n = l.length * n + ys.length * n := Nat.add_mul _ _ _
 refine ⟨?_, fun hl => ⟨hgr.os, hgr.tape, hgr.output, hgr.size, fun k hk => hgr.block k (by omega) ?_⟩, hout⟩
 ·have hyr : Row E n w' g' (0 + l.length * n) ys G := by
   refine hys.mov hE ys (fun i hi => ?_) (fun f hf => hout f (hG2 f hf).2.1 (hG2 f hf).2.2.2)
   rw [Nat.zero_add, hcell _ (by omega), List.getElem?_append_right (by omega), hnc i hi, hxl]
   congr 1; omega
  have hgG : g' ∉ G := by
   intro hm
   rcases hat with h1 | h1
   ·exact (hG2 g' hm).2.2.2 g' h1 rfl
   ·have := (hG2 g' hm).2.1; omega
  rcases h with ⟨rfl, rfl, rfl⟩ | ⟨g, cur0, F, rfl, k1, k2, h3, h4, h5, h6, h7, h8, h9, h10⟩
  ·refine Or.inr ⟨g', cur, G, rfl, r6, hlt, r1, by simpa using r2, r3, r4, by simpa using hyr, hgG, hG, fun f hf => ⟨(hG2 f hf).1, by have := (hG2 f hf).2.1; omega, (hG2 f hf).2.2.1.agree (hout f (hG2 f hf).2.1 (hG2 f hf).2.2.2)⟩⟩
  ·have hFo : ∀ f ∈ F, w'.heap[f]? = w.heap[f]? := fun f hf => hout f (by have := (h10 f hf).2.1; omega) (fun k hk => by simp only [Value.ownBlock, Option.some.injEq] at hk; subst hk; rintro rfl; exact h8 hf)
   have hlr : Row E n w' g' 0 l F := by
    refine h7.mov hE l (fun i hi => ?_) hFo
    rw [Nat.zero_add, hcell _ (by omega), List.getElem?_append_left (by omega)]
    have := hxs g rfl i hi
    rw [Nat.zero_add] at this
    exact this.symm
   have hgF : g' ∉ F := by
    intro hm
    rcases hat with h1 | h1
    ·simp only [Value.ownBlock, Option.some.injEq] at h1; subst h1; exact h8 hm
    ·have := (h10 g' hm).2.1; omega
   refine Or.inr ⟨g', cur, F ++ G, rfl, r6, hlt, r1, by simpa using r2, r3, r4, hlr.append hyr, by simp [hgF, hgG], fun hnd => ?_, fun f hf => ?_⟩
   ·rw [List.nodup_append]
    refine ⟨h9 hnd, hG hnd, ?_⟩
    intro x hx y hy e
    have := (h10 x hx).2.1
    have := hG3 hnd y hy
    omega
   ·rcases List.mem_append.1 hf with hf | hf
    ·exact ⟨(h10 f hf).1, by have := (h10 f hf).2.1; omega, (h10 f hf).2.2.agree (hFo f hf)⟩
    ·exact ⟨(hG2 f hf).1, by have := (hG2 f hf).2.1; omega, (hG2 f hf).2.2.1.agree (hout f (hG2 f hf).2.1 (hG2 f hf).2.2.2)⟩
 ·intro hk2
  rcases h with ⟨rfl, rfl, rfl⟩ | ⟨g, cur0, F, rfl, k1, k2, _⟩
  ·simp [Value.ownBlock] at hk2
  ·simp [Value.ownBlock] at hk2; omega
theorem App.owns {w : World} {lo hi cap : Nat} {a : Option Addr} {l : List α} (hE : Elem E n) (h : App E n e nd w lo hi a cap l) :
  ∃ xs : List Value, w.ownsRow lo e n (.slice a l.length cap) l.length xs ∧ xs.length = l.length * n ∧ ∀ g, a = some ⟨g, 0, none⟩ → ∀ i, i < l.length * n → w.cell? ⟨g, 0 + i, none⟩ = xs[i]? := by
 rcases h with ⟨rfl, rfl, rfl⟩ | ⟨g, cur, F, rfl, k1, k2, h3, h4, h5, h6, h7, h8, h9, h10⟩
 ·exact ⟨[], World.ownsRow_nil _ _ _ _, by simp, by simp⟩
 ·have hle : l.length * n ≤ cur.size := by rw [h6]; exact Nat.mul_le_mul_right _ h4
  have hl : (cur.toList.take (l.length * n)).length = l.length * n := by simp; omega
  refine ⟨cur.toList.take (l.length * n), ⟨hl, Or.inr ⟨g, cap, cur, rfl, k1, h3, h4, h5, h6, rfl⟩⟩, hl, ?_⟩
  intro g2 hg2 i hi
  injection hg2 with hg2
  injection hg2 with hg2
  subst hg2
  rw [Nat.zero_add, List.getElem?_take, if_pos hi]
  simp [World.cell?, h3]
theorem wpList_app {P : Program} {w : World} (hE : Elem E n) {ops : Array Oper} {rest : List Oper} {o : Oper} {act : Act} {Q : Exit → Act → World → Prop} (hgd : o.guard = none) (s x : Operand) (t : TypeId)
  (ho : o.op = .call { callee := .builtin .append, args := #[s, x], argTypes := #[t, t] }) (z : Value) (bytes : Nat) (ht : P.underlying t = some (.slice e)) (hinfo : (P.info? e).map (fun i => (i.zero, i.size, i.bytes)) = some (some z, n, bytes)) (hzs : z.cells.size = n)
  (lo hi : Nat) (a : Option Addr) (cap : Nat) (l : List α) (hs : act.eval s = .slice a l.length cap) (happ : App E n e nd w lo hi a cap l) (hhi : hi ≤ w.heap.size) (hlo : lo ≤ w.heap.size)
  (b off m c : Nat) (ys : List α) (G : List Nat) (hx : act.eval x = .slice (some ⟨b, off, none⟩) m c) (hm : ys.length = m) (hys : Row E n w b off ys G) (hG : nd → G.Nodup) (hG2 : ∀ f ∈ G, lo ≤ f ∧ f < w.heap.size ∧ Unf w f ∧ ∀ k, (Value.slice a l.length cap).ownBlock = some k → f ≠ k) (hG3 : nd → ∀ f ∈ G, hi ≤ f)
  (hpos : 0 < m) (h63 : l.length + m ≤ maxLen) (hbytes : (l.length + m) * bytes ≤ 140737488355328)
  (h : ∀ a' cap' w', App E n e nd w' lo w'.heap.size a' cap' (l ++ ys) → Below lo w w' → (∀ f, f < w.heap.size → (∀ k, (Value.slice a l.length cap).ownBlock = some k → f ≠ k) → w'.heap[f]? = w.heap[f]?) → wpList P ops Q rest (act.put o.dst (.slice a' (l ++ ys).length cap')) w') : wpList P ops Q (o :: rest) act w := by
 obtain ⟨i, hi', hz0, hz1, hz2⟩ := info_parts hinfo
 obtain ⟨xs, q1, q2, q3⟩ := happ.owns hE
 subst hm
 obtain ⟨news, n1, n2, n3⟩ := cells_list (hys.cel hE ys)
 refine wpList_append_lies w hgd s x t ho lo e i z n bytes ht hi' hz0 hz1 hz2 hzs hE.pos (.slice a l.length cap) l.length xs hs q1 ⟨b, off, none⟩ ys.length c news hx n1 (fun j u hj => ?_) n3 hpos h63 hbytes hlo w.heap.size rfl (fun g' cap' w' hown hgr hat hlt => ?_)
 ·have hj2 : j < ys.length * n := by
   rcases Nat.lt_or_ge j (ys.length * n) with h | h
   ·exact h
   ·rw [List.getElem?_eq_none (by omega)] at hj; cases hj
  rw [← hj, ← n2 j hj2, Addr.add_lit]
 ·obtain ⟨r1, r2, r3⟩ := App.grown hE happ hhi hys hG hG2 hG3 n1 n2 q3 q2 hown hgr hat hlt
  have := h _ _ w' r1 (r2 hlo) r3
  rwa [List.length_append] at this
end
theorem EInt.elem : Elem EInt 1 := by
 refine ⟨by omega, ?_, ?_⟩
 ·intro x w w' b o b' o' F h hc _
  exact ⟨h.1, by have := hc 0 (by omega); rw [Nat.add_zero, Nat.add_zero] at this; rw [this]; exact h.2.1, h.2.2⟩
 ·intro x w b o F h i hi
  obtain rfl : i = 0 := by omega
  exact ⟨_, h.2.1, rfl⟩
theorem EByte.elem : Elem EByte 1 := by
 refine ⟨by omega, ?_, ?_⟩
 ·intro x w w' b o b' o' F h hc _
  exact ⟨h.1, by have := hc 0 (by omega); rw [Nat.add_zero, Nat.add_zero] at this; rw [this]; exact h.2.1, h.2.2⟩
 ·intro x w b o F h i hi
  obtain rfl : i = 0 := by omega
  exact ⟨_, h.2.1, rfl⟩
theorem EStep.elem : Elem EStep 2 := by
 refine ⟨by omega, ?_, ?_⟩
 ·intro x w w' b o b' o' F h hc _
  have h0 := hc 0 (by omega)
  have h1 := hc 1 (by omega)
  rw [Nat.add_zero, Nat.add_zero] at h0
  exact ⟨h.1, by rw [h0]; exact h.2.1, by rw [h1]; exact h.2.2.1, h.2.2.2⟩
 ·intro x w b o F h i hi
  rcases (by omega : i = 0 ∨ i = 1) with rfl | rfl
  ·exact ⟨_, h.2.1, rfl⟩
  ·exact ⟨_, h.2.2.1, rfl⟩
theorem ELoss.elem : Elem ELoss 2 := by
 refine ⟨by omega, ?_, ?_⟩
 ·intro x w w' b o b' o' F h hc hF
  have h0 := hc 0 (by omega)
  have h1 := hc 1 (by omega)
  rw [Nat.add_zero, Nat.add_zero] at h0
  obtain ⟨k1, k2, a, cap, k3, k4⟩ := h
  exact ⟨by rw [h0]; exact k1, k2, a, cap, by rw [h1]; exact k3, k4.agree EStep.loc hF⟩
 ·intro x w b o F h i hi
  obtain ⟨k1, k2, a, cap, k3, k4⟩ := h
  rcases (by omega : i = 0 ∨ i = 1) with rfl | rfl
  ·exact ⟨_, k1, rfl⟩
  ·exact ⟨_, k3, rfl⟩
theorem tkZ {α : Type} (a b : α) (l : List α) : (a :: l).set 0 b = b :: l := rfl
theorem tkN {α : Type} (a b : α) (l : List α) (n : Nat) : (a :: l).set (n + 1) b = a :: l.set n b := rfl
theorem tkL {α : Type} (l : List α) (i : Nat) (b : α) : l.toArray.setIfInBounds i b = (l.set i b).toArray := by simp
theorem tkS {P : Program} {ops : Array Oper} {Q : Exit → Act → World → Prop} {md : Region.Mode} {S : World → Prop} (i d : Nat) {o1 o2 o3 o4 o5} {fuel : Nat} {listed : Array Bool} {a a' : Act} {w : World} {v : Value} (hi : ops[i]? = some (⟨some d, o1, o2, o3, o4, o5⟩ : Oper))
  (h : wpAnyH P md ops Q S fuel (listed.setIfInBounds i true) a' w)
  (hy : ∀ w, S w → (execOp a.eval ⟨some d, o1, o2, o3, o4, o5⟩).run P w = .ok (.value v) w := by intro w hSw; (try dsimp only at hSw); go_simp; try with_reducible rfl)
  (ha : a.put (some d) v = a' := by simp only [Act.put, tkL, tkZ, tkN]; first | done | rfl)
  (hs : Region.noSelect ops = true := by kernel_rfl) (hf : Region.free md ops listed i = true := by kernel_rfl) (hr : (Region.ready md ops listed).contains i = true := by kernel_rfl) (hw : Region.wanted (⟨some d, o1, o2, o3, o4, o5⟩ : Oper) (yielded ops a.tmps) = true := by rfl)
  (hQ : ∀ c a w, Q (.panic c) (a.put (some d) v) w → Q (.panic c) a w := by exact fun _ _ _ h => h) (hS : S w := by assumption) : wpAnyH P md ops Q S (fuel + 1) listed a w :=
 wpAnyH_take (oi := ⟨some d, o1, o2, o3, o4, o5⟩) hi hs hf hr hQ (Or.inl ⟨hw, hy⟩) hS (ha ▸ h)
theorem tkF {P : Program} {ops : Array Oper} {Q : Exit → Act → World → Prop} {md : Region.Mode} {S : World → Prop} (i d : Nat) {o1 o2 o3 o4 o5} {fuel : Nat} {listed : Array Bool} {a a' : Act} {w : World} (hi : ops[i]? = some (⟨some d, o1, o2, o3, o4, o5⟩ : Oper))
  (h : wpAnyH P md ops Q S fuel (listed.setIfInBounds i true) a' w) (hw : Region.wanted (⟨some d, o1, o2, o3, o4, o5⟩ : Oper) (yielded ops a.tmps) = false := by rfl)
  (ha : a.put (some d) undef = a' := by simp only [Act.put, tkL, tkZ, tkN]; first | done | rfl)
  (hs : Region.noSelect ops = true := by kernel_rfl) (hf : Region.free md ops listed i = true := by kernel_rfl) (hr : (Region.ready md ops listed).contains i = true := by kernel_rfl)
  (hQ : ∀ c a w, Q (.panic c) (a.put (some d) undef) w → Q (.panic c) a w := by exact fun _ _ _ h => h) (hS : S w := by assumption) : wpAnyH P md ops Q S (fuel + 1) listed a w :=
 wpAnyH_take (oi := ⟨some d, o1, o2, o3, o4, o5⟩) hi hs hf hr hQ (Or.inr ⟨hw, rfl⟩) hS (ha ▸ h)
theorem tkR {P : Program} {ops : Array Oper} {Q : Exit → Act → World → Prop} {md : Region.Mode} {S : World → Prop} (rs : List Nat) {fuel : Nat} {listed : Array Bool} {a : Act} {w : World} (h : AllReadyH P md ops Q S fuel listed a w rs)
  (hr : Region.ready md ops listed = rs := by kernel_rfl) (hne : rs ≠ [] := by simp) : wpAnyH P md ops Q S (fuel + 1) listed a w := wpAnyH_ready hr hne h
theorem tkA {P : Program} {ops : Array Oper} {Q : Exit → Act → World → Prop} {md : Region.Mode} {S : World → Prop} (i d : Nat) {o1 o2 o3 o4 o5} {fuel : Nat} {listed : Array Bool} {a : Act} {w : World} (ho : ops[i]? = some (⟨some d, o1, o2, o3, o4, o5⟩ : Oper))
  (h : ∀ K' : Act → World → Prop, Shut (∀ a w, S w → (S w → wpAnyH P md ops Q S fuel (listed.setIfInBounds i true) a w) → K' a w) → if Region.wanted (⟨some d, o1, o2, o3, o4, o5⟩ : Oper) (yielded ops a.tmps) = true then Oper.wp P ⟨some d, o1, o2, o3, o4, o5⟩ a w K' Q else K' (a.put (some d) undef) w)
  (hr : Region.ready md ops listed = [i] := by kernel_rfl) : wpAnyH P md ops Q S (fuel + 1) listed a w := wpAnyH_ready hr (by simp) (AllReadyH.cons ho h AllReadyH.nil)
theorem tkB {P : Program} {ops : Array Oper} {Q : Exit → Act → World → Prop} {md : Region.Mode} {S : World → Prop} (i : Nat) {o1 o2 o3 o4 o5} {fuel : Nat} {listed : Array Bool} {a : Act} {w : World} (ho : ops[i]? = some (⟨none, o1, o2, o3, o4, o5⟩ : Oper))
  (h : ∀ K' : Act → World → Prop, Shut (∀ a w, S w → (S w → wpAnyH P md ops Q S fuel (listed.setIfInBounds i true) a w) → K' a w) → if Region.wanted (⟨none, o1, o2, o3, o4, o5⟩ : Oper) (yielded ops a.tmps) = true then Oper.wp P ⟨none, o1, o2, o3, o4, o5⟩ a w K' Q else K' (a.put none undef) w)
  (hr : Region.ready md ops listed = [i] := by kernel_rfl) : wpAnyH P md ops Q S (fuel + 1) listed a w := wpAnyH_ready hr (by simp) (AllReadyH.cons ho h AllReadyH.nil)
theorem tkC {P : Program} {ops : Array Oper} {Q : Exit → Act → World → Prop} {md : Region.Mode} {S : World → Prop} (d : Nat) {o1 o2 o3 o4 o5} {fuel : Nat} {listed : Array Bool} {a : Act} {w : World} {i : Nat} {rs : List Nat} (ho : ops[i]? = some (⟨some d, o1, o2, o3, o4, o5⟩ : Oper))
  (h : ∀ K' : Act → World → Prop, Shut (∀ a w, S w → (S w → wpAnyH P md ops Q S fuel (listed.setIfInBounds i true) a w) → K' a w) → if Region.wanted (⟨some d, o1, o2, o3, o4, o5⟩ : Oper) (yielded ops a.tmps) = true then Oper.wp P ⟨some d, o1, o2, o3, o4, o5⟩ a w K' Q else K' (a.put (some d) undef) w)
  (hs : AllReadyH P md ops Q S fuel listed a w rs) : AllReadyH P md ops Q S fuel listed a w (i :: rs) := AllReadyH.cons ho h hs
theorem tkE {P : Program} {ops : Array Oper} {Q : Exit → Act → World → Prop} {md : Region.Mode} {S : World → Prop} {fuel : Nat} {listed : Array Bool} {a : Act} {w : World} (h : Q .normal a w) (hr : Region.ready md ops listed = [] := by kernel_rfl) : wpAnyH P md ops Q S fuel listed a w := wpAnyH_done hr h _
theorem kpA {N : Nat} {W0 w1 : World} {ob : Obj} (h : (∀ b o, b < N → w1.cell? ⟨b, o, none⟩ = W0.cell? ⟨b, o, none⟩) ∧ Below N W0 w1) (hn : N ≤ W0.heap.size := by first | exact Nat.le_refl _ | omega) :
  (∀ b o, b < N → (w1.alloc ob).cell? ⟨b, o, none⟩ = W0.cell? ⟨b, o, none⟩) ∧ Below N W0 (w1.alloc ob) := keep_step h (below1 _ _) (Nat.le_trans hn h.2.size)
theorem kpZ {N : Nat} {W0 : World} : (∀ b o, b < N → W0.drew.cell? ⟨b, o, none⟩ = W0.cell? ⟨b, o, none⟩) ∧ Below N W0 W0.drew := ⟨fun _ _ _ => rfl, (Below.refl _ _).drew⟩
theorem kpD {N : Nat} {W0 w1 : World} (h : (∀ b o, b < N → w1.cell? ⟨b, o, none⟩ = W0.cell? ⟨b, o, none⟩) ∧ Below N W0 w1) :
  (∀ b o, b < N → w1.drew.cell? ⟨b, o, none⟩ = W0.cell? ⟨b, o, none⟩) ∧ Below N W0 w1.drew := keep_step h (Below.drew (Below.refl _ _)) (Nat.le_refl _)
theorem kpB {N : Nat} {W0 w1 w2 : World} (h : (∀ b o, b < N → w1.cell? ⟨b, o, none⟩ = W0.cell? ⟨b, o, none⟩) ∧ Below N W0 w1) (hb : Below w1.heap.size w1 w2) (hn : N ≤ W0.heap.size := by first | exact Nat.le_refl _ | omega) :
  (∀ b o, b < N → w2.cell? ⟨b, o, none⟩ = W0.cell? ⟨b, o, none⟩) ∧ Below N W0 w2 := keep_step h hb (Nat.le_trans hn h.2.size)
theorem kpC {N n : Nat} {W0 w1 w2 : World} (h : (∀ b o, b < N → w1.cell? ⟨b, o, none⟩ = W0.cell? ⟨b, o, none⟩) ∧ Below N W0 w1) (hb : Below n w1 w2) (hn : W0.heap.size ≤ w1.heap.size → N ≤ n := by first | (intro hz; omega) | (intro hz; (try simp only [World.size_drew, size_alloc] at hz); (try simp only [World.size_drew, size_alloc]); omega)) :
  (∀ b o, b < N → w2.cell? ⟨b, o, none⟩ = W0.cell? ⟨b, o, none⟩) ∧ Below N W0 w2 := keep_step h hb (hn h.2.size)
theorem tkK {N : Nat} {W0 : World} {a a' : Act} {w : World} {K : Act → World → Prop} {X : Act → World → Prop} (hK : Shut (∀ a w, ((∀ b o, b < N → w.cell? ⟨b, o, none⟩ = W0.cell? ⟨b, o, none⟩) ∧ Below N W0 w) → (((∀ b o, b < N → w.cell? ⟨b, o, none⟩ = W0.cell? ⟨b, o, none⟩) ∧ Below N W0 w) → X a w) → K a w))
  (h : ((∀ b o, b < N → w.cell? ⟨b, o, none⟩ = W0.cell? ⟨b, o, none⟩) ∧ Below N W0 w) → X a' w)
  (hS : (∀ b o, b < N → w.cell? ⟨b, o, none⟩ = W0.cell? ⟨b, o, none⟩) ∧ Below N W0 w := by first | exact kpZ | exact kpD (by assumption) | exact kpB (by assumption) (by assumption) | exact kpC (by assumption) (by assumption))
  (ha : a = a' := by (try simp only [Act.put, tkL, tkZ, tkN]); first | done | rfl) : K a w := by subst ha; exact hK.out _ _ hS h
theorem tkW {P : Program} {ops : Array Oper} {Q : Exit → Act → World → Prop} {id : Nat} {a : Act} {w : World} (N : Nat) (W0 : World)
  (h : ((∀ b o, b < N → w.drew.cell? ⟨b, o, none⟩ = W0.cell? ⟨b, o, none⟩) ∧ Below N W0 w.drew) → wpAnyH P .any ops Q (fun w' => (∀ b o, b < N → w'.cell? ⟨b, o, none⟩ = W0.cell? ⟨b, o, none⟩) ∧ Below N W0 w') ops.size (Array.replicate ops.size false) a w.drew)
  (hS : (∀ b o, b < N → w.drew.cell? ⟨b, o, none⟩ = W0.cell? ⟨b, o, none⟩) ∧ Below N W0 w.drew := by first | exact kpZ | exact kpD (by assumption) | exact kpB (by assumption) (by assumption) | exact kpC (by assumption) (by assumption))
  (hm : P.follows .mixedOrders = true := by kernel_rfl) : (Code.region id ops true).wp P Q a w := wp_region_held_drew (S := fun w' => (∀ b o, b < N → w'.cell? ⟨b, o, none⟩ = W0.cell? ⟨b, o, none⟩) ∧ Below N W0 w') hm hS h
theorem TR.row {w : World} {b : Nat} : ∀ {l : List T} {o : Nat} {F : List Nat}, TR w b o l F ↔ Row TV 5 w b o l F := by
 intro l
 induction l with
 | nil => intro o F; rw [TR]; exact Iff.rfl
 | cons t r ih =>
  intro o F
  rw [TR]
  constructor
  ·rintro ⟨F1, F2, h, h1, h2⟩; exact ⟨F1, F2, h, h1, ih.1 h2⟩
  ·rintro ⟨F1, F2, h, h1, h2⟩; exact ⟨F1, F2, h, h1, ih.2 h2⟩
theorem TL.sl {w : World} {a : Option Addr} {cap : Nat} {l : List T} {F : List Nat} : TL w a cap l F ↔ Sl TV 5 w a cap l F := by
 constructor
 ·rintro ⟨h1, h2, h3, h4⟩
  refine ⟨h1, h2, h3, fun hne => ?_⟩
  obtain ⟨b, o, F', ha, hF, hr⟩ := h4 hne
  exact ⟨b, o, F', ha, hF, TR.row.1 hr⟩
 ·rintro ⟨h1, h2, h3, h4⟩
  refine ⟨h1, h2, h3, fun hne => ?_⟩
  obtain ⟨b, o, F', ha, hF, hr⟩ := h4 hne
  exact ⟨b, o, F', ha, hF, TR.row.2 hr⟩
theorem TV.elem : Elem TV 5 := by
 refine ⟨by omega, ?_, ?_⟩
 ·intro x w w' b o b' o' F h hc hF
  rw [← T.eta x, TV.iff] at h ⊢
  obtain ⟨h0, h1, h2, h3, i0, i1, i2, i3, a, cap, h4, hl⟩ := h
  refine ⟨(hc 0 (by omega)).trans h0, (hc 1 (by omega)).trans h1, (hc 2 (by omega)).trans h2, (hc 3 (by omega)).trans h3, i0, i1, i2, i3, a, cap, (hc 4 (by omega)).trans h4, hl.agree hF⟩
 ·intro x w b o F h i hi
  rw [← T.eta x, TV.iff] at h
  obtain ⟨h0, h1, h2, h3, i0, i1, i2, i3, a, cap, h4, hl⟩ := h
  rcases (by omega : i = 0 ∨ i = 1 ∨ i = 2 ∨ i = 3 ∨ i = 4) with rfl | rfl | rfl | rfl | rfl
  ·exact ⟨_, h0, rfl⟩
  ·exact ⟨_, h1, rfl⟩
  ·exact ⟨_, h2, rfl⟩
  ·exact ⟨_, h3, rfl⟩
  ·exact ⟨_, h4, rfl⟩
theorem R.rd {w : World} {B cap : Nat} {a : Option Addr} {l : List T} : R w B a cap l ↔ Rd TV 5 w B a cap l := by
 constructor
 ·rintro ⟨F, h, k⟩; exact ⟨F, TL.sl.1 h, k⟩
 ·rintro ⟨F, h, k⟩; exact ⟨F, TL.sl.2 h, k⟩
theorem Own.ow {w : World} {lo hi cap : Nat} {a : Option Addr} {l : List T} : Own w lo hi a cap l ↔ Ow TV 5 w lo hi a cap l := by
 constructor
 ·rintro ⟨F, h, k⟩; exact ⟨F, TL.sl.1 h, k⟩
 ·rintro ⟨F, h, k⟩; exact ⟨F, TL.sl.2 h, k⟩
theorem countL_le_szL (l : List T) : T.countL l ≤ T.szL l := by
 have := T.countL_le_szL (.mk 0 0 0 ⟨#[]⟩ l)
 simp only [T.count, T.sz] at this
 have h : (⟨#[]⟩ : ByteArray).size = 0 := rfl
 omega
theorem info_Val : (Tryz.prog.info? 26).map (fun i => (i.zero, i.size, i.bytes)) = some (some (.agg #[.int .i64 0, .int .i64 0, .int .i64 0, .string ⟨#[]⟩, .slice none 0 0]), 5, 64) := by kernel_rfl
mutual
def sameT : T → T → Bool
 | .mk k n x s l, .mk k' n' x' s' l' => decide (k = k') && decide (n = n') && decide (x = x') && decide (s.data = s'.data) && sameTs l l'
def sameTs : List T → List T → Bool
 | [], [] => true
 | a :: r, b :: q => sameT a b && sameTs r q
 | [], _ :: _ => false
 | _ :: _, [] => false
end
theorem sameT_iff : ∀ a b : T, sameT a b = true ↔ a = b := by
 intro a
 induction a using T.ind with
 | h k n x s l ih =>
  intro b
  obtain ⟨k', n', x', s', l'⟩ := b
  have key : ∀ (r q : List T), (∀ t ∈ r, t ∈ l) → (sameTs r q = true ↔ r = q) := by
   intro r
   induction r with
   | nil => intro q _; cases q <;> simp [sameTs]
   | cons t r ihr =>
    intro q hm
    cases q with
    | nil => simp [sameTs]
    | cons u q =>
     rw [sameTs, Bool.and_eq_true, ih t (hm t (by simp)) u, ihr q (fun v hv => hm v (by simp [hv]))]
     simp
  rw [sameT]
  simp only [Bool.and_eq_true, decide_eq_true_eq, key l l' (fun _ h => h), T.mk.injEq]
  constructor
  ·rintro ⟨⟨⟨⟨h1, h2⟩, h3⟩, h4⟩, h5⟩
   refine ⟨h1, h2, h3, ?_, h5⟩
   cases s; cases s'; simp at h4; rw [h4]
  ·rintro ⟨h1, h2, h3, h4, h5⟩; exact ⟨⟨⟨⟨h1, h2⟩, h3⟩, by rw [h4]⟩, h5⟩
theorem sameT_true {a b : T} (h : a = b) : sameT a b = true := (sameT_iff a b).2 h
theorem sameT_false {a b : T} (h : ¬ a = b) : sameT a b = false := by
 rw [Bool.eq_false_iff]; exact fun e => h ((sameT_iff a b).1 e)
set_option maxHeartbeats 1000000 in
theorem spec_SameVal : ∀ t u : T, ∀ (a a' : Option Addr) (cap cap' B : Nat) (w : World), R w B a cap t.l → R w B a' cap' u.l → B ≤ w.heap.size →
  Calls Tryz.prog 176 #[.agg (cV t a cap), .agg (cV u a' cap')] w fun e w' => e = .returned (.bool (sameT t u)) ∧ Below w.heap.size w w' := by
 intro t
 induction t using T.ind with
 | h k n x s l ih =>
  intro u a a' cap cap' B w hr hr' hB
  have IH := Lib.hid ih; clear ih
  obtain ⟨k', n', x', s', l'⟩ := u
  simp only [cV, T.k, T.n, T.x, T.s, T.l] at hr hr' ⊢
  obtain ⟨hl1, hl2⟩ := hr.len
  obtain ⟨hm1, hm2⟩ := hr'.len
  have HR := Lib.hid hr; clear hr
  have HR' := Lib.hid hr'; clear hr'
  have H3 := Lib.hid (below2 w (.cells #[Value.int IntKind.i64 k, Value.int IntKind.i64 n, Value.int IntKind.i64 x, Value.string s, Value.slice a l.length cap] 26) (.cells #[Value.int IntKind.i64 k', Value.int IntKind.i64 n', Value.int IntKind.i64 x', Value.string s', Value.slice a' l'.length cap'] 26))
  by_cases hk : k = k'
  case neg =>
   have h1 : (k == k') = false := by simp [hk]
   have h2 : (k != k') = true := by simp [hk]
   have HE := Lib.hid (show sameT (T.mk k n x s l) (T.mk k' n' x' s' l') = false from sameT_false (fun e => hk (by injection e)))
   clear hk
   go_enter Tryz.func176, Tryz.ntmps176
   go_wp2_with fail
   go_ret
   exact ⟨ret_b HE.out.symm, H3.out⟩
  subst hk
  by_cases hk : n = n'
  case neg =>
   have h1 : (n == n') = false := by simp [hk]
   have h2 : (n != n') = true := by simp [hk]
   have HE := Lib.hid (show sameT (T.mk k n x s l) (T.mk k n' x' s' l') = false from sameT_false (fun e => hk (by injection e)))
   clear hk
   go_enter Tryz.func176, Tryz.ntmps176
   go_wp2_with fail
   go_ret
   exact ⟨ret_b HE.out.symm, H3.out⟩
  subst hk
  by_cases hk : x = x'
  case neg =>
   have h1 : (x == x') = false := by simp [hk]
   have h2 : (x != x') = true := by simp [hk]
   have HE := Lib.hid (show sameT (T.mk k n x s l) (T.mk k n x' s' l') = false from sameT_false (fun e => hk (by injection e)))
   clear hk
   go_enter Tryz.func176, Tryz.ntmps176
   go_wp2_with fail
   go_ret
   exact ⟨ret_b HE.out.symm, H3.out⟩
  subst hk
  by_cases hk : s = s'
  case neg =>
   have h1 := bytes_ne hk
   have h2 : (s.toList != s'.toList) = true := by simp [bne, h1]
   have HE := Lib.hid (show sameT (T.mk k n x s l) (T.mk k n x s' l') = false from sameT_false (fun e => hk (by injection e)))
   clear hk
   go_enter Tryz.func176, Tryz.ntmps176
   go_wp2_with fail
   go_ret
   exact ⟨ret_b HE.out.symm, H3.out⟩
  subst hk
  by_cases hk : l.length = l'.length
  case neg =>
   have h1 : ((l.length : Int) == l'.length) = false := by rw [beq_eq_false_iff_ne]; omega
   have h2 : ((l.length : Int) != l'.length) = true := by simp [bne, h1]
   have HE := Lib.hid (show sameT (T.mk k n x s l) (T.mk k n x s l') = false from sameT_false (fun e => hk (by injection e with _ _ _ _ e5; rw [e5])))
   clear hk
   go_enter Tryz.func176, Tryz.ntmps176
   go_wp2_with fail
   go_ret
   exact ⟨ret_b HE.out.symm, H3.out⟩
  have h1 : ((l.length : Int) == l'.length) = true := by simp [hk]
  have h2 : ((l.length : Int) != l'.length) = false := by simp [hk]
  have HL := Lib.hid hk; clear hk
  have q1 : Is ((w.alloc (.cells #[Value.int IntKind.i64 k, Value.int IntKind.i64 n, Value.int IntKind.i64 x, Value.string s, Value.slice a l.length cap] 26)).alloc (.cells #[Value.int IntKind.i64 k, Value.int IntKind.i64 n, Value.int IntKind.i64 x, Value.string s, Value.slice a' l'.length cap'] 26)) w.heap.size 26 _ := (Is.new _ _ _).alloc _
  have q2 := Is.new2 w (.cells #[Value.int IntKind.i64 k, Value.int IntKind.i64 n, Value.int IntKind.i64 x, Value.string s, Value.slice a l.length cap] 26) #[Value.int IntKind.i64 k, Value.int IntKind.i64 n, Value.int IntKind.i64 x, Value.string s, Value.slice a' l'.length cap'] 26
  have hs : w.heap.size + 2 ≤ ((w.alloc (.cells #[Value.int IntKind.i64 k, Value.int IntKind.i64 n, Value.int IntKind.i64 x, Value.string s, Value.slice a l.length cap] 26)).alloc (.cells #[Value.int IntKind.i64 k, Value.int IntKind.i64 n, Value.int IntKind.i64 x, Value.string s, Value.slice a' l'.length cap'] 26)).heap.size := by simp
  go_enter Tryz.func176, Tryz.ntmps176
  go_wp2_with fail
  generalize hW : (w.alloc (.cells #[Value.int IntKind.i64 k, Value.int IntKind.i64 n, Value.int IntKind.i64 x, Value.string s, Value.slice a l.length cap] 26)).alloc (.cells #[Value.int IntKind.i64 k, Value.int IntKind.i64 n, Value.int IntKind.i64 x, Value.string s, Value.slice a' l'.length cap'] 26) = W0 at q1 q2 H3 hs ⊢
  clear hW
  go_loopw [5] (fun i wr => ∃ (j : Nat), j ≤ l.length ∧ i = .int .i64 j ∧ Hid (l.take j = l'.take j) ∧ Below W0.heap.size W0 wr) (fun i _ => l.length - (intOf i).toNat)
  case atStart => exact ⟨0, Nat.zero_le _, rfl, rfl, Below.refl _ _⟩
  case round =>
   obtain ⟨j, hj, rfl, HP, hb⟩ := hrel
   have hbs := hb.size
   obtain ⟨c0, c1, c2, c3, c4⟩ := (q1.below hb (by omega)).cells5
   obtain ⟨e0, e1, e2, e3, e4⟩ := (q2.below hb (by omega)).cells5
   by_cases hlt : j < l.length
   ·have hlt' : j < l'.length := by have := HL.out; omega
    have hR := (HR.out.below H3.out hB).below hb (by omega)
    have hR' := (HR'.out.below H3.out hB).below hb (by omega)
    obtain ⟨b, o, a2, cap2, rfl, hbl, d0, d1, d2, d3, d4, hwf, hq⟩ := hR.get j hlt
    obtain ⟨b', o', a3, cap3, rfl, hbl', d0', d1', d2', d3', d4', hwf', hq'⟩ := hR'.get j hlt'
    have l1 : b < wr.heap.size := by omega
    have l2 : b' < wr.heap.size := by omega
    have l3 : w.heap.size < wr.heap.size := by omega
    have l4 : w.heap.size + 1 < wr.heap.size := by omega
    clear hR hR' hwf hwf'
    go_wp2_with fail
    go_region_held3 (fun w' => (∀ b o, b < wr.heap.size → w'.cell? ⟨b, o, none⟩ = wr.cell? ⟨b, o, none⟩) ∧ Below (wr.heap.size) wr w') (first | exact kpZ | assumption | exact kpD (by assumption) | exact kpB (by assumption) (by assumption) | exact kpC (by assumption) (by assumption) | exact kpA (by assumption)) (first | (go_at_call 176; refine (IH.out l[j] (List.getElem_mem hlt) l'[j] _ _ _ _ B _ ?_ ?_ (by have := (‹_ ∧ Below (wr.heap.size) wr _›).2.size; omega)).mono ?_; (exact hq.below (‹_ ∧ Below (wr.heap.size) wr _›).2 (by omega)); (exact hq'.below (‹_ ∧ Below (wr.heap.size) wr _›).2 (by omega)); rintro e w2 ⟨rfl, hb2⟩))
    have K := Lib.hid (hb.trans ((‹_ ∧ Below (wr.heap.size) wr _›).2.mono hbs))
    clear hb2
    by_cases he : l[j] = l'[j]
    ·have HE := Lib.hid (show l.take (j + 1) = l'.take (j + 1) from by rw [take_snoc l j hlt, take_snoc l' j hlt', HP.out, he])
     have hd := sameT_true he
     clear he
     rw [hd]
     go_wp2_with fail
     go_roundw
     case rel => exact ⟨j + 1, by omega, by go_num, HE.out, K.out⟩
     case measure => simp [intOf]; omega
    ·have HE := Lib.hid (show sameT (T.mk k n x s l) (T.mk k n x s l') = false from sameT_false (fun e => he (by injection e with _ _ _ _ e5; subst e5; rfl)))
     have hd := sameT_false he
     clear he
     rw [hd]
     go_wp2_with fail
     go_ret
     exact ⟨ret_b HE.out.symm, H3.out.trans (K.out.mono (by omega))⟩
   ·have HJ := Lib.hid (show sameT (T.mk k n x s l) (T.mk k n x s l') = true from sameT_true (by have := HP.out; have h2 := HL.out; rw [List.take_of_length_le (by omega), List.take_of_length_le (by omega)] at this; rw [this]))
    go_wp2_with fail
    go_ret
    exact ⟨ret_b HJ.out.symm, H3.out.trans (hb.mono (by omega))⟩
end Go.Proofs.YtggdenkmohnijaaGreatDoor
