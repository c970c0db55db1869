/- Texts of this proof, merged: OnceA, AppG, PathAt, PathAt2, Once, AppS. No condition beyond what each theorem states. -/
import Derived.Test.YtggdenkmohnijaaGreatDoorZN12
import Derived.Deep.AppendSrc
import Derived.Deep.Upon
import Derived.Lib.AppendZeros
import Derived.Lib.AppendStr
import Derived.Lib.ValidAsc
set_option linter.unusedSimpArgs false
set_option linter.unnecessarySimpa false
namespace Go.Proofs.YtggdenkmohnijaaGreatDoor
open Go.ChangeShapes Go.WideShapes Go.ChangeAt Go.RowKit Go.Joins
set_option linter.unusedVariables false
set_option maxRecDepth 100000
section
variable {α : Type} {E : World → Nat → Nat → α → List Nat → Prop} {n : Nat} {e : TypeId}
def AppL (E : World → Nat → Nat → α → List Nat → Prop) (n : Nat) (e : TypeId) (w : World) (rlo : Nat) (a : Option Addr) (cap : Nat) (l : List α) (F : List Nat) : Prop :=
  (a = none ∧ cap = 0 ∧ l = [] ∧ F = []) ∨ ∃ g cur, a = some ⟨g, 0, none⟩ ∧ rlo ≤ g ∧ w.heap[g]? = some (.cells cur e (0, 0)) ∧ l.length ≤ cap ∧ cap ≤ maxLen ∧ cur.size = cap * n ∧ Row E n w g 0 l F ∧ ∀ f ∈ F, f < rlo
theorem AppL.empty (w : World) (rlo : Nat) (hl : rlo ≤ w.heap.size) : AppL E n e (w.alloc (.cells #[] e)) rlo (some ⟨w.heap.size, 0, none⟩) 0 [] [] :=
  Or.inr ⟨w.heap.size, #[], rfl, hl, heap_alloc_new w _, Nat.le_refl _, by simp [maxLen], by simp, rfl, by simp⟩
theorem AppL.agree (hE : Elem E n) {w w' : World} {rlo cap : Nat} {a : Option Addr} {l : List α} {F : List Nat} (h : AppL E n e w rlo a cap l F) (hw : ∀ f, f < w.heap.size → w'.heap[f]? = w.heap[f]?) (hr : rlo ≤ w.heap.size) : AppL E n e w' rlo a cap l F := by
  rcases h with h | ⟨g, cur, ha, h1, h3, h4, h5, h6, h7, h8⟩
  · exact Or.inl h
  · have hg : g < w.heap.size := (Array.getElem?_eq_some_iff.1 h3).1
    exact Or.inr ⟨g, cur, ha, h1, (hw g hg).trans h3, h4, h5, h6, h7.agree hE.loc l (Cells.of_block (hw g hg) _ _) (fun f hf => hw f (by have := h8 f hf; omega)), h8⟩
theorem AppL.lt {w : World} {rlo cap : Nat} {a : Option Addr} {l : List α} {F : List Nat} (h : AppL E n e w rlo a cap l F) : ∀ f ∈ F, f < rlo := by
  rcases h with ⟨_, _, _, rfl⟩ | ⟨g, cur, ha, h1, h3, h4, h5, h6, h7, h8⟩
  · simp
  · exact h8
theorem AppL.own {w : World} {rlo lo cap : Nat} {a : Option Addr} {l : List α} {F : List Nat} (h : AppL E n e w rlo a cap l F) (hn : F.Nodup) (hlo : lo ≤ rlo) (hF : ∀ f ∈ F, lo ≤ f ∧ Unf w f) : Ow E n w lo w.heap.size a cap l := by
  rcases h with ⟨rfl, rfl, rfl, rfl⟩ | ⟨g, cur, rfl, h1, h3, h4, h5, h6, h7, h8⟩
  · exact Ow.nil _ _ _ _ _ (by simp [maxLen])
  · have hg : g < w.heap.size := (Array.getElem?_eq_some_iff.1 h3).1
    by_cases hl : l = []
    · subst hl; exact Ow.nil _ _ _ _ _ h5
    · refine ⟨g :: F, ⟨h4, h5, fun h => absurd h hl, fun _ => ⟨g, 0, F, rfl, rfl, h7⟩⟩, List.nodup_cons.2 ⟨fun hm => by have := h8 g hm; omega, hn⟩, ?_⟩
      intro f hf
      rcases List.mem_cons.1 hf with rfl | hf
      · exact ⟨by omega, hg, ⟨_, _, h3⟩⟩
      · exact ⟨(hF f hf).1, (hF f hf).2.lt, (hF f hf).2⟩
theorem AppL.owns {w : World} {rlo cap : Nat} {a : Option Addr} {l : List α} {F : List Nat} (h : AppL E n e w rlo a cap l F) :
    ∃ xs : List Value, w.ownsRow rlo e n (.slice a l.length cap) l.length xs ∧ xs.length = l.length * n ∧ ∀ g, a = some ⟨g, 0, none⟩ → ∀ i, i < l.length * n → w.cell? ⟨g, 0 + i, none⟩ = xs[i]? := by
  rcases h with ⟨rfl, rfl, rfl, rfl⟩ | ⟨g, cur, rfl, h1, h3, h4, h5, h6, h7, h8⟩
  · exact ⟨[], World.ownsRow_nil _ _ _ _, by simp, by simp⟩
  · have hle : l.length * n ≤ cur.size := by rw [h6]; exact Nat.mul_le_mul_right _ h4
    have hl : (cur.toList.take (l.length * n)).length = l.length * n := by simp; omega
    refine ⟨cur.toList.take (l.length * n), ⟨hl, Or.inr ⟨g, cap, cur, rfl, h1, h3, h4, h5, h6, rfl⟩⟩, hl, ?_⟩
    intro g2 hg2 i hi
    injection hg2 with hg2
    injection hg2 with hg2
    subst hg2
    rw [Nat.zero_add, List.getElem?_take, if_pos hi]
    simp [World.cell?, h3]
theorem AppL.grown (hE : Elem E n) {w w' : World} {rlo cap cap' : Nat} {a : Option Addr} {l ys : List α} {F G : List Nat} {b o g' : Nat} {news xs : List Value}
    (h : AppL E n e w rlo a cap l F) (hys : Row E n w b o ys G) (hG : ∀ f ∈ G, f < rlo) (hr : rlo ≤ w.heap.size)
    (hnl : news.length = ys.length * n) (hnc : ∀ i, i < ys.length * n → w.cell? ⟨b, o + i, none⟩ = news[i]?) (hxs : ∀ g, a = some ⟨g, 0, none⟩ → ∀ i, i < l.length * n → w.cell? ⟨g, 0 + i, none⟩ = xs[i]?) (hxl : xs.length = l.length * n)
    (hown : w'.ownsRow rlo e n (.slice (some ⟨g', 0, none⟩) (l.length + ys.length) cap') (l.length + ys.length) (xs ++ news)) (hgr : w.grownBy w' (Value.slice a l.length cap).ownBlock) :
    AppL E n e w' rlo (some ⟨g', 0, none⟩) cap' (l ++ ys) (F ++ G) ∧ Below rlo w w' := by
  have hrow : ∃ cur, w'.heap[g']? = some (.cells cur e (0, 0)) ∧ l.length + ys.length ≤ cap' ∧ cap' ≤ maxLen ∧ cur.size = cap' * n ∧ cur.toList.take ((l.length + ys.length) * n) = xs ++ news ∧ rlo ≤ g' := by
    rcases hown.2 with ⟨h0, _⟩ | ⟨g, cap2, cur, hv, hb, hg, h1, h2, h3, h4⟩
    · cases h0
    · injection hv with hv1 hv2 hv3
      injection hv1 with hv1
      injection hv1 with hv1
      subst hv1 hv3
      exact ⟨cur, hg, h1, h2, h3, h4, hb⟩
  obtain ⟨cur, r1, r2, r3, r4, r5, r6⟩ := hrow
  have hcell : ∀ i, i < (l.length + ys.length) * n → w'.cell? ⟨g', i, none⟩ = (xs ++ news)[i]? := by
    intro i hi
    rw [← r5, List.getElem?_take, if_pos hi]
    simp [World.cell?, r1]
  have hmul : (l.length + ys.length) * n = l.length * n + ys.length * n := Nat.add_mul _ _ _
  have hold : ∀ k, (Value.slice a l.length cap).ownBlock = some k → rlo ≤ k := by
    intro k hk
    rcases h with ⟨rfl, rfl, rfl, _⟩ | ⟨g, cur0, rfl, k1, _⟩
    · simp [Value.ownBlock] at hk
    · simp [Value.ownBlock] at hk; omega
  have hlow : ∀ f, f < rlo → w'.heap[f]? = w.heap[f]? := fun f hf => hgr.block f (by omega) (fun e => by have := hold f e.symm; omega)
  refine ⟨?_, hgr.os, hgr.tape, hgr.output, hgr.size, hlow⟩
  have hyr : Row E n w' g' (0 + l.length * n) ys G := by
    refine hys.mov hE ys (fun i hi => ?_) (fun f hf => hlow f (hG f hf))
    rw [Nat.zero_add, hcell _ (by omega), List.getElem?_append_right (by omega), hnc i hi, hxl]
    congr 1; omega
  rcases h with ⟨rfl, rfl, rfl, rfl⟩ | ⟨g, cur0, rfl, k1, h3, h4, h5, h6, h7, h8⟩
  · exact Or.inr ⟨g', cur, rfl, r6, r1, by simpa using r2, r3, r4, by simpa using hyr, by simpa using hG⟩
  · have hlr : Row E n w' g' 0 l F := by
      refine h7.mov hE l (fun i hi => ?_) (fun f hf => hlow f (h8 f hf))
      rw [Nat.zero_add, hcell _ (by omega), List.getElem?_append_left (by omega)]
      have := hxs g rfl i hi
      rw [Nat.zero_add] at this
      exact this.symm
    refine Or.inr ⟨g', cur, rfl, r6, r1, by simpa using r2, r3, r4, hlr.append hyr, fun f hf => ?_⟩
    rcases List.mem_append.1 hf with hf | hf
    · exact h8 f hf
    · exact hG f hf
theorem wpList_appL {P : Program} {w : World} (hE : Elem E n) {ops : Array Oper} {rest : List Oper} {o : Oper} {act : Act} {Q : Exit → Act → World → Prop} (hgd : o.guard = none) (s x : Operand) (t : TypeId)
    (ho : o.op = .call { callee := .builtin .append, args := #[s, x], argTypes := #[t, t] }) (z : Value) (bytes : Nat) (ht : P.underlying t = some (.slice e)) (hinfo : (P.info? e).map (fun i => (i.zero, i.size, i.bytes)) = some (some z, n, bytes)) (hzs : z.cells.size = n)
    (rlo : Nat) (a : Option Addr) (cap : Nat) (l : List α) (F : List Nat) (hs : act.eval s = .slice a l.length cap) (happ : AppL E n e w rlo a cap l F) (hlo : rlo ≤ w.heap.size)
    (b off m c : Nat) (ys : List α) (G : List Nat) (hx : act.eval x = .slice (some ⟨b, off, none⟩) m c) (hm : ys.length = m) (hys : Row E n w b off ys G) (hG : ∀ f ∈ G, f < rlo)
    (hpos : 0 < m) (h63 : l.length + m ≤ maxLen) (hbytes : (l.length + m) * bytes ≤ 140737488355328)
    (h : ∀ a' cap' w', AppL E n e w' rlo a' cap' (l ++ ys) (F ++ G) → Below rlo w w' → wpList P ops Q rest (act.put o.dst (.slice a' (l ++ ys).length cap')) w') : wpList P ops Q (o :: rest) act w := by
  obtain ⟨i, hi', hz0, hz1, hz2⟩ := info_parts hinfo
  obtain ⟨xs, q1, q2, q3⟩ := happ.owns
  subst hm
  obtain ⟨news, n1, n2, n3⟩ := cells_list (hys.cel hE ys)
  refine wpList_append_lies w hgd s x t ho rlo e i z n bytes ht hi' hz0 hz1 hz2 hzs hE.pos (.slice a l.length cap) l.length xs hs q1 ⟨b, off, none⟩ ys.length c news hx n1 (fun j u hj => ?_) n3 hpos h63 hbytes hlo w.heap.size rfl (fun g' cap' w' hown hgr hat hlt => ?_)
  · have hj2 : j < ys.length * n := by
      rcases Nat.lt_or_ge j (ys.length * n) with h | h
      · exact h
      · rw [List.getElem?_eq_none (by omega)] at hj; cases hj
    rw [← hj, ← n2 j hj2, Addr.add_lit]
  · obtain ⟨r1, r2⟩ := AppL.grown hE happ hys hG hlo n1 n2 q3 q2 hown hgr
    have := h _ _ w' r1 r2
    rwa [List.length_append] at this
theorem step_appL {P : Program} {w : World} (hE : Elem E n) {ops : Array Oper} {o : Oper} {act : Act} {K : Act → World → Prop} {Q : Exit → Act → World → Prop} {X : Prop} (hgd : o.guard = none) (s x : Operand) (t : TypeId)
    (ho : o.op = .call { callee := .builtin .append, args := #[s, x], argTypes := #[t, t] }) (z : Value) (bytes : Nat) (ht : P.underlying t = some (.slice e)) (hinfo : (P.info? e).map (fun i => (i.zero, i.size, i.bytes)) = some (some z, n, bytes)) (hzs : z.cells.size = n)
    (rlo : Nat) (a : Option Addr) (cap : Nat) (l : List α) (F : List Nat) (hs : act.eval s = .slice a l.length cap) (happ : AppL E n e w rlo a cap l F) (hlo : rlo ≤ w.heap.size)
    (b off m c : Nat) (ys : List α) (G : List Nat) (hx : act.eval x = .slice (some ⟨b, off, none⟩) m c) (hm : ys.length = m) (hys : Row E n w b off ys G) (hG : ∀ f ∈ G, f < rlo)
    (hpos : 0 < m) (h63 : l.length + m ≤ maxLen) (hbytes : (l.length + m) * bytes ≤ 140737488355328)
    (h : ∀ a' cap' w', AppL E n e w' rlo a' cap' (l ++ ys) (F ++ G) → Below rlo w w' → K (act.put o.dst (.slice a' (l ++ ys).length cap')) w') : if Region.wanted o (yielded ops act.tmps) = true then Oper.wp P o act w K Q else X := by
  obtain ⟨i, hi', hz0, hz1, hz2⟩ := info_parts hinfo
  obtain ⟨xs, q1, q2, q3⟩ := happ.owns
  subst hm
  obtain ⟨news, n1, n2, n3⟩ := cells_list (hys.cel hE ys)
  refine step_append_lies w hgd s x t ho rlo e i z n bytes ht hi' hz0 hz1 hz2 hzs hE.pos (.slice a l.length cap) l.length xs hs q1 ⟨b, off, none⟩ ys.length c news hx n1 (fun j u hj => ?_) n3 hpos h63 hbytes hlo w.heap.size rfl (fun g' cap' w' hown hgr hat hlt => ?_)
  · have hj2 : j < ys.length * n := by
      rcases Nat.lt_or_ge j (ys.length * n) with h | h
      · exact h
      · rw [List.getElem?_eq_none (by omega)] at hj; cases hj
    rw [← hj, ← n2 j hj2, Addr.add_lit]
  · obtain ⟨r1, r2⟩ := AppL.grown hE happ hys hG hlo n1 n2 q3 q2 hown hgr
    have := h _ _ w' r1 r2
    rwa [List.length_append] at this
end
section
variable {α : Type} {E : World → Nat → Nat → α → List Nat → Prop} {n : Nat} {e : TypeId} {nd : Prop}
def Srcs (E : World → Nat → Nat → α → List Nat → Prop) (n : Nat) (w : World) (a : Option Addr) (ys : List α) (G : List Nat) : Prop :=
  (ys = [] → G = []) ∧ (ys ≠ [] → ∃ b o, a = some ⟨b, o, none⟩ ∧ Row E n w b o ys G)
theorem Srcs.agree (hE : Elem E n) {w w' : World} {a : Option Addr} {ys : List α} {G : List Nat} (h : Srcs E n w a ys G) (hb : ∀ b o, a = some ⟨b, o, none⟩ → ys ≠ [] → w'.heap[b]? = w.heap[b]?) (hG : Agree w w' G) : Srcs E n w' a ys G := by
  refine ⟨h.1, fun hne => ?_⟩
  obtain ⟨b, o, ha, hr⟩ := h.2 hne
  exact ⟨b, o, ha, hr.agree hE.loc ys (Cells.of_block (hb b o ha hne) _ _) hG⟩
theorem Srcs.one {w : World} {b o : Nat} {y : α} {G : List Nat} (h : E w b o y G) : Srcs E n w (some ⟨b, o, none⟩) [y] G :=
  ⟨fun h => absurd h (by simp), fun _ => ⟨b, o, rfl, G, [], by simp, h, rfl⟩⟩
theorem run_append_zero {P : Program} (w : World) (t ty e : TypeId) (i : TypeInfo) (ht : P.underlying t = some (.slice e)) (hi : P.info? e = some i) (a a2 : Option Addr) (k cap c2 : Nat) (hk : k ≤ cap) :
    (Builtin.append_ #[t, t] ty #[.slice a k cap, .slice a2 0 c2]).run P w = .ok (.slice a k cap) w := by
  cases a2 with
  | none => exact run_append_nothing w t t ty e i ht hi a k cap hk _ (Src.ofNil w ht c2)
  | some ad => exact run_append_nothing w t t ty e i ht hi a k cap hk _ (Src.ofSlice w ht ad 0 c2 [] (by simp) (by simp) (by simp))
theorem run_appL {P : Program} (w : World) (hE : Elem E n) (t ty : TypeId) (z : Value) (bytes : Nat) (ht : P.underlying t = some (.slice e)) (hinfo : (P.info? e).map (fun i => (i.zero, i.size, i.bytes)) = some (some z, n, bytes)) (hzs : z.cells.size = n)
    (rlo : Nat) (a : Option Addr) (cap : Nat) (l : List α) (F : List Nat) (happ : AppL E n e w rlo a cap l F) (hlo : rlo ≤ w.heap.size) (hcap : l.length ≤ cap)
    (a2 : Option Addr) (c2 : Nat) (ys : List α) (G : List Nat) (hys : Srcs E n w a2 ys G) (hG : ∀ f ∈ G, f < rlo) (h63 : l.length + ys.length ≤ maxLen) (hbytes : (l.length + ys.length) * bytes ≤ 140737488355328) :
    ∃ a' cap' w', (Builtin.append_ #[t, t] ty #[.slice a l.length cap, .slice a2 ys.length c2]).run P w = .ok (.slice a' (l ++ ys).length cap') w' ∧ AppL E n e w' rlo a' cap' (l ++ ys) (F ++ G) ∧ Below rlo w w' ∧
      (∀ f, f < w.heap.size → (∀ k, (Value.slice a l.length cap).ownBlock = some k → f ≠ k) → w'.heap[f]? = w.heap[f]?) ∧ (∀ k, (Value.slice a' (l ++ ys).length cap').ownBlock = some k → (Value.slice a l.length cap).ownBlock = some k ∨ k = w.heap.size) ∧ w.heap.size ≤ w'.heap.size := by
  obtain ⟨i, hi', hz0, hz1, hz2⟩ := info_parts hinfo
  by_cases hne : ys = []
  · subst hne
    rw [hys.1 rfl]
    simp only [List.append_nil]
    exact ⟨a, cap, w, run_append_zero w t ty e i ht hi' a a2 l.length cap c2 hcap, happ, Below.refl _ _, fun _ _ _ => rfl, fun k hk => Or.inl hk, Nat.le_refl _⟩
  · obtain ⟨b, off, rfl, hrow⟩ := hys.2 hne
    obtain ⟨xs, q1, q2, q3⟩ := happ.owns
    obtain ⟨news, n1, n2, n3⟩ := cells_list (hrow.cel hE ys)
    have hpos : 0 < ys.length := List.length_pos_iff.2 hne
    obtain ⟨g', cap', w', hr, hown, hgr, hat, hlt⟩ := run_append_lies (P := P) w t ty rlo e i z n bytes ht hi' hz0 hz1 hz2 hzs hE.pos (.slice a l.length cap) l.length xs q1 ⟨b, off, none⟩ ys.length c2 news n1 (fun j u hj => by
      have hj2 : j < ys.length * n := by
        rcases Nat.lt_or_ge j (ys.length * n) with h | h
        · exact h
        · rw [List.getElem?_eq_none (by omega)] at hj; cases hj
      rw [← hj, ← n2 j hj2, Addr.add_lit]) n3 hpos h63 hbytes hlo w.heap.size rfl
    obtain ⟨r1, r2⟩ := AppL.grown hE happ hrow hG hlo n1 n2 q3 q2 hown hgr
    rw [List.length_append]
    exact ⟨_, cap', w', hr, r1, r2, fun f hf hne => hgr.block f hf (fun e => hne f e.symm rfl), fun k hk => by
      have hk' : k = g' := by
        simp only [Value.ownBlock] at hk
        first | exact (Option.some.inj hk).symm | (split at hk <;> simp_all)
      subst hk'; exact hat, hgr.size⟩
theorem run_app {P : Program} (w : World) (hE : Elem E n) (t ty : TypeId) (z : Value) (bytes : Nat) (ht : P.underlying t = some (.slice e)) (hinfo : (P.info? e).map (fun i => (i.zero, i.size, i.bytes)) = some (some z, n, bytes)) (hzs : z.cells.size = n)
    (lo hi : Nat) (a : Option Addr) (cap : Nat) (l : List α) (happ : App E n e nd w lo hi a cap l) (hhi : hi ≤ w.heap.size) (hlo : lo ≤ hi)
    (a2 : Option Addr) (c2 : Nat) (ys : List α) (G : List Nat) (hys : Srcs E n w a2 ys G) (hG : G.Nodup) (hG2 : ∀ f ∈ G, hi ≤ f ∧ f < w.heap.size ∧ Unf w f) (h63 : l.length + ys.length ≤ maxLen) (hbytes : (l.length + ys.length) * bytes ≤ 140737488355328) :
    ∃ a' cap' w', (Builtin.append_ #[t, t] ty #[.slice a l.length cap, .slice a2 ys.length c2]).run P w = .ok (.slice a' (l ++ ys).length cap') w' ∧ App E n e nd w' lo w'.heap.size a' cap' (l ++ ys) ∧ Below lo w w' ∧
      (∀ f, f < w.heap.size → (∀ k, (Value.slice a l.length cap).ownBlock = some k → f ≠ k) → w'.heap[f]? = w.heap[f]?) ∧ w.heap.size ≤ w'.heap.size := by
  obtain ⟨i, hi', hz0, hz1, hz2⟩ := info_parts hinfo
  have hcap := happ.len.1
  by_cases hne : ys = []
  · subst hne
    simp only [List.append_nil]
    exact ⟨a, cap, w, run_append_zero w t ty e i ht hi' a a2 l.length cap c2 hcap, happ.more (Nat.le_refl _) hhi, Below.refl _ _, fun _ _ _ => rfl, Nat.le_refl _⟩
  · obtain ⟨b, off, rfl, hrow⟩ := hys.2 hne
    obtain ⟨xs, q1, q2, q3⟩ := happ.owns hE
    obtain ⟨news, n1, n2, n3⟩ := cells_list (hrow.cel hE ys)
    have hpos : 0 < ys.length := List.length_pos_iff.2 hne
    obtain ⟨g', cap', w', hr, hown, hgr, hat, hlt⟩ := run_append_lies (P := P) w t ty lo e i z n bytes ht hi' hz0 hz1 hz2 hzs hE.pos (.slice a l.length cap) l.length xs q1 ⟨b, off, none⟩ ys.length c2 news n1 (fun j u hj => by
      have hj2 : j < ys.length * n := by
        rcases Nat.lt_or_ge j (ys.length * n) with h | h
        · exact h
        · rw [List.getElem?_eq_none (by omega)] at hj; cases hj
      rw [← hj, ← n2 j hj2, Addr.add_lit]) n3 hpos h63 hbytes (by omega) w.heap.size rfl
    obtain ⟨r1, r2, r3⟩ := App.grown hE happ hhi hrow (fun _ => hG) (fun f hf => ⟨Nat.le_trans hlo (hG2 f hf).1, (hG2 f hf).2.1, (hG2 f hf).2.2, fun k hk => by have := (happ.row k hk).2; have := (hG2 f hf).1; omega⟩) (fun _ f hf => (hG2 f hf).1) n1 n2 q3 q2 hown hgr hat hlt
    rw [List.length_append]
    exact ⟨_, cap', w', hr, r1, r2 (by omega), r3, hgr.size⟩
def Flat (E : World → Nat → Nat → α → List Nat → Prop) : Prop := ∀ (x : α) (w : World) (b o : Nat) (F : List Nat), E w b o x F → F = []
theorem Row.flat (hf : Flat E) {w : World} {b : Nat} : ∀ (l : List α) (o : Nat) (F : List Nat), Row E n w b o l F → F = [] := by
  intro l
  induction l with
  | nil => intro o F h; exact h
  | cons x r ih =>
    intro o F h
    obtain ⟨F1, F2, rfl, h1, h2⟩ := h
    rw [hf x w b o F1 h1, ih _ _ h2]; rfl
theorem Rd.srcs (hf : Flat E) {w : World} {B cap : Nat} {a : Option Addr} {l : List α} (h : Rd E n w B a cap l) : Srcs E n w a l [] := by
  obtain ⟨F, ⟨h1, h2, h3, h4⟩, hF⟩ := h
  refine ⟨fun _ => rfl, fun hne => ?_⟩
  obtain ⟨b, o, F', ha, rfl, hr⟩ := h4 hne
  exact ⟨b, o, ha, by have := hr.flat hf; subst this; exact hr⟩
theorem AppL.cap {w : World} {rlo cap : Nat} {a : Option Addr} {l : List α} {F : List Nat} (h : AppL E n e w rlo a cap l F) : l.length ≤ cap ∧ cap ≤ 9223372036854775807 := by
  rcases h with ⟨_, rfl, rfl, _⟩ | ⟨g, cur, ha, h1, h3, h4, h5, _⟩
  · simp
  · unfold maxLen at h5; exact ⟨h4, by omega⟩
theorem AppL.rd {w : World} {rlo cap : Nat} {a : Option Addr} {l : List α} {F : List Nat} (h : AppL E n e w rlo a cap l F) (hlo : rlo ≤ w.heap.size) : Rd E n w w.heap.size a cap l := by
  rcases h with ⟨rfl, rfl, rfl, rfl⟩ | ⟨g, cur, rfl, h1, h3, h4, h5, h6, h7, h8⟩
  · exact Rd.nil _ _
  · have hg : g < w.heap.size := (Array.getElem?_eq_some_iff.1 h3).1
    by_cases hl : l = []
    · subst hl; exact ⟨[], Sl.nil _ _ _ h5, by simp⟩
    · exact ⟨g :: F, ⟨h4, h5, fun h => absurd h hl, fun _ => ⟨g, 0, F, rfl, rfl, h7⟩⟩, fun f hf => by
        rcases List.mem_cons.1 hf with rfl | hf
        · exact hg
        · have := h8 f hf; omega⟩
theorem AppL.some {w : World} {rlo cap : Nat} {a : Option Addr} {l : List α} {F : List Nat} (h : AppL E n e w rlo a cap l F) (hl : l ≠ []) : ∃ g, a = .some ⟨g, 0, none⟩ := by
  rcases h with h | ⟨g, _, h, _⟩
  · exact absurd h.2.2.1 hl
  · exact ⟨g, h⟩
theorem step_append_run {P : Program} (w : World) {ops : Array Oper} {o : Oper} {a : Act} {K : Act → World → Prop} {Q : Exit → Act → World → Prop} {X : Prop} (hgd : o.guard = none) (s x : Operand) (t tn : TypeId)
    (ho : o.op = .call { callee := .builtin .append, args := #[s, x], argTypes := #[t, tn] }) (vs vx : Value) (hs : a.eval s = vs) (hx : a.eval x = vx)
    (v' : Value) (w' : World) (hr : (Builtin.append_ #[t, tn] o.type #[vs, vx]).run P w = .ok v' w') (h : K (a.put o.dst v') w') : if Region.wanted o (yielded ops a.tmps) = true then Oper.wp P o a w K Q else X := by
  have hw : Region.wanted o (yielded ops a.tmps) = true := by simp [Region.wanted, hgd]
  rw [if_pos hw]
  exact Lib.wp_append_run w s x t tn ho vs vx hs hx v' w' hr h
end
theorem EInt.flat : Flat EInt := fun _ _ _ _ _ h => h.1
theorem EByte.flat : Flat EByte := fun _ _ _ _ _ h => h.1
theorem EStep.flat : Flat EStep := fun _ _ _ _ _ h => h.1
def rawI (t : T) (s : St) : Int := if t.k = 10 then (if s.2 then 2 * s.1 else 2 * s.1 + 1) else s.1
def okI (t : T) (s : St) : Prop := 0 ≤ s.1 ∧ (s.2 = true → t.k = 10) ∧ rawI t s < t.l.length
instance (t : T) (s : St) : Decidable (okI t s) := by unfold okI; exact inferInstance
def zT : T := .mk 0 0 0 ⟨#[]⟩ []
theorem Is.drew {w : World} {g : Nat} {e : TypeId} {cs : Array Value} (h : Is w g e cs) : Is w.drew g e cs := h
def hasNm (a : T) : List T → Bool
  | [] => false
  | [x] => sameT a x
  | x :: _ :: r => sameT a x || hasNm a r
def keepN (l : List T) : Nat → List T
  | 0 => []
  | p + 1 => keepN l p ++ (if hasNm (l.getD (2 * p) zT) (l.drop (2 * p + 2)) then [] else [l.getD (2 * p) zT, l.getD (2 * p + 1) zT])
def lastP (l : List T) : List T := keepN l (l.length / 2)
mutual
def onceT : T → T | .mk k n x s l => .mk k n x s (if k = 10 ∧ l.length % 2 = 0 then lastP (onceTs l) else onceTs l)
def onceTs : List T → List T
  | [] => []
  | t :: r => onceT t :: onceTs r
end
theorem onceTs_map (l : List T) : onceTs l = l.map onceT := by
  induction l with
  | nil => simp [onceTs]
  | cons t r ih => simp [onceTs, ih]
theorem onceTs_length (l : List T) : (onceTs l).length = l.length := by rw [onceTs_map]; simp
theorem keepN_len (l : List T) (p : Nat) : (keepN l p).length ≤ 2 * p := by
  induction p with
  | zero => simp [keepN]
  | succ p ih =>
    rw [keepN, List.length_append]
    split
    · simp; omega
    · simp; omega
theorem onceTs_take_succ (l : List T) (j : Nat) (h : j < l.length) : onceTs (l.take (j + 1)) = onceTs (l.take j) ++ [onceT l[j]] := by
  rw [take_snoc l j h, onceTs_map, onceTs_map, List.map_append]; rfl
theorem hasNm_odd (a : T) (l : List T) (k : Nat) (h : k + 1 < l.length) : hasNm a (l.drop k) = (sameT a l[k] || hasNm a (l.drop (k + 2))) := by
  rw [List.drop_eq_getElem_cons (by omega : k < l.length), List.drop_eq_getElem_cons (by omega : k + 1 < l.length), hasNm]
theorem hasNm_end (a : T) (l : List T) (k : Nat) (h : l.length ≤ k) : hasNm a (l.drop k) = false := by
  rw [List.drop_of_length_le h, hasNm]
def byteL (s : ByteArray) : List Int := s.data.toList.map fun b => (b.toNat : Int)
theorem byteL_len (s : ByteArray) : (byteL s).length = s.size := by unfold byteL; rw [List.length_map, ← Lib.size_eq]
theorem byteL_append (a b : ByteArray) : byteL (a ++ b) = byteL a ++ byteL b := by unfold byteL; simp [ByteArray.data_append]
theorem byteL_str (s : ByteArray) : strOfNums (byteL s) = s := by
  unfold strOfNums byteL
  apply ByteArray.ext; apply Array.ext'
  simp only [List.map_map]
  exact (List.map_congr_left (fun b _ => by simp)).trans (List.map_id _)
theorem byteL_u8 (s : ByteArray) : ∀ x ∈ byteL s, U8 x := by
  intro x hx
  obtain ⟨b, _, rfl⟩ := List.mem_map.1 hx
  have := b.toNat_lt
  exact ⟨by omega, by omega⟩
theorem byteL_cells (s : ByteArray) : (byteL s).map (Value.int .u8) = Lib.strCells s := by unfold byteL Lib.strCells; rw [List.map_map]; rfl
theorem row_bytes {w : World} {g : Nat} : ∀ (l : List Int) (o : Nat), (∀ x ∈ l, U8 x) → (∀ i (h : i < l.length), w.cell? ⟨g, o + i, none⟩ = some (.int .u8 l[i])) → Row EByte 1 w g o l [] := by
  intro l
  induction l with
  | nil => intro o _ _; rfl
  | cons x r ih =>
    intro o hu hc
    refine ⟨[], [], rfl, ⟨rfl, by have := hc 0 (by simp); simpa using this, hu x (by simp)⟩, ih (o + 1) (fun y hy => hu y (by simp [hy])) (fun i h => ?_)⟩
    have := hc (i + 1) (by simp; omega)
    rw [show o + 1 + i = o + (i + 1) from by omega]
    simpa using this
theorem appL_bytes {w : World} {base : Nat} {e : TypeId} {v : Value} {n : Nat} {l : List Int} (hu : ∀ x ∈ l, U8 x) (hn : n = l.length) (h : w.ownsRow base e 1 v n (l.map (Value.int .u8))) : ∃ a cap, v = .slice a l.length cap ∧ AppL EByte 1 e w base a cap l [] := by
  subst hn
  obtain ⟨h0, ⟨rfl, hz⟩ | ⟨g, cap, cur, rfl, h1, h2, h3, h4, h5, h6⟩⟩ := h
  · have : l = [] := List.eq_nil_of_length_eq_zero hz
    subst this
    exact ⟨none, 0, rfl, Or.inl ⟨rfl, rfl, rfl, rfl⟩⟩
  · refine ⟨some ⟨g, 0, none⟩, cap, rfl, Or.inr ⟨g, cur, rfl, h1, h2, h3, h4, h5, row_bytes l 0 hu (fun i hi => ?_), by simp⟩⟩
    have e1 : (cur.toList.take (l.length * 1))[i]? = some (.int .u8 l[i]) := by rw [h6]; simp [hi]
    rw [List.getElem?_take, if_pos (by omega)] at e1
    rw [Nat.zero_add]
    simp [World.cell?, h2]
    simpa using e1
theorem wpList_appStr {P : Program} {w : World} {ops : Array Oper} {rest : List Oper} {o : Oper} {act : Act} {Q : Exit → Act → World → Prop} {e : TypeId} (hgd : o.guard = none) (sl x : Operand) (t u : TypeId)
    (ho : o.op = .call { callee := .builtin .append, args := #[sl, x], argTypes := #[t, u] }) (ht : P.underlying t = some (.slice e)) (hu : P.underlying u = some .string) (hinfo : (P.info? e).map (fun i => (i.zero, i.size, i.bytes)) = some (some (.int .u8 0), 1, 1))
    (rlo : Nat) (a : Option Addr) (cap : Nat) (l : List Int) (hl : ∀ x ∈ l, U8 x) (hs : act.eval sl = .slice a l.length cap) (happ : AppL EByte 1 e w rlo a cap l []) (hlo : rlo ≤ w.heap.size) (s : ByteArray) (hx : act.eval x = .string s)
    (hbytes : l.length + s.size ≤ 140737488355328)
    (h : ∀ a' cap' w', AppL EByte 1 e w' rlo a' cap' (l ++ byteL s) [] → Below rlo w w' → (∀ f, f < w.heap.size → (∀ k, (Value.slice a l.length cap).ownBlock = some k → f ≠ k) → w'.heap[f]? = w.heap[f]?) → w.heap.size ≤ w'.heap.size → wpList P ops Q rest (act.put o.dst (.slice a' (l ++ byteL s).length cap')) w') : wpList P ops Q (o :: rest) act w := by
  obtain ⟨i, hi', hz0, hz1, hz2⟩ := info_parts hinfo
  obtain ⟨xs, q1, q2, q3⟩ := happ.owns
  have hxs : xs = l.map (Value.int .u8) := by
    rcases happ with ⟨rfl, rfl, rfl, _⟩ | ⟨g, cur, rfl, h1, h3, h4, h5, h6, h7, h8⟩
    · exact List.eq_nil_of_length_eq_zero (by simpa using q2)
    · apply List.ext_getElem?
      intro j
      by_cases hj : j < l.length
      · obtain ⟨F', hv, _⟩ := h7.get j hj
        have := q3 g rfl j (by omega)
        rw [← this]
        have hv2 := hv.2.1
        rw [Nat.mul_one] at hv2
        rw [hv2]; simp [hj]
      · rw [List.getElem?_eq_none (by omega), List.getElem?_eq_none (by simp; omega)]
  subst hxs
  refine Lib.wpList_append_own_string w hgd sl x t u ho rlo e i ht hu hi' hz0 hz1 hz2 (.slice a l.length cap) l.length (l.map (Value.int .u8)) hs q1 s hx (by unfold maxLen; omega) hbytes hlo (fun v' w' hown hgr _ => ?_)
  rw [← byteL_cells, ← List.map_append] at hown
  obtain ⟨a', cap', rfl, happ'⟩ := appL_bytes (fun x hx => by rcases List.mem_append.1 hx with h | h; exact hl x h; exact byteL_u8 s x h) (by rw [List.length_append, byteL_len]) hown
  have hlow : ∀ k, (Value.slice a l.length cap).ownBlock = some k → rlo ≤ k := fun k hk => (by
    rcases happ with ⟨rfl, rfl, rfl, _⟩ | ⟨g, cur, rfl, k1, _⟩
    · simp [Value.ownBlock] at hk
    · simp only [Value.ownBlock, Option.some.injEq] at hk; omega)
  exact h a' cap' w' happ' ⟨hgr.os, hgr.tape, hgr.output, hgr.size, fun f hf => hgr.block f (by omega) (fun e => by have := hlow f e.symm; omega)⟩ (fun f hf hne => hgr.block f hf (fun e => hne f e.symm rfl)) hgr.size
end Go.Proofs.YtggdenkmohnijaaGreatDoor
