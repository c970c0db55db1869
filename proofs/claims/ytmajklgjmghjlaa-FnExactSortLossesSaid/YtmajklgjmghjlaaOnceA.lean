/- Contracts and lemmas for the proofs of this seat: OnceA. No condition beyond those stated. -/
import Derived.Test.YtmajklgjmghjlaaRows
import Derived.WalkKit
import Derived.ProofKit
import Derived.OpenShut
import Derived.Handy
import Derived.Lib.Hide
import Derived.Lib.SmallJoins
import Derived.Deep.RegionHeld3
import Derived.Deep.AppendLies
import Derived.Deep.QuietTactic
import Derived.BigQuiet
import Derived.Test.YtmajklgjmghjlaaBase
import Derived.Test.YtmajklgjmghjlaaGen
import Derived.Test.YtmajklgjmghjlaaKit
import Derived.Test.YtmajklgjmghjlaaMark
import Derived.Test.YtmajklgjmghjlaaApp
import Derived.Test.YtmajklgjmghjlaaMarkV
import Derived.Test.YtmajklgjmghjlaaLawVal
import Derived.Test.YtmajklgjmghjlaaCopy
namespace Go.Proofs.Ytmajklgjmghjlaa
open Go.ChangeShapes Go.WideShapes Go.ChangeAt Go.RowKit Go.Joins
set_option linter.unusedVariables false
set_option maxRecDepth 100000
/-! ### A list that grows by elements whose own blocks lie below rlo -/
section
variable {α : Type} {E : World → Nat → Nat → α → List Nat → Prop} {n : Nat} {e : TypeId}
def AppL (E : World → Nat → Nat → α → List Nat → Prop) (n : Nat) (e : TypeId) (w : World) (rlo : Nat) (a : Option Addr) (cap : Nat) (l : List α) (F : List Nat) : Prop :=
  (a = none ∧ cap = 0 ∧ l = [] ∧ F = []) ∨ ∃ g cur, a = some ⟨g, 0, none⟩ ∧ rlo ≤ g ∧ w.heap[g]? = some (.cells cur e (0, 0)) ∧ l.length ≤ cap ∧ cap ≤ maxLen ∧ cur.size = cap * n ∧ Row E n w g 0 l F ∧ ∀ f ∈ F, f < rlo
theorem AppL.empty (w : World) (rlo : Nat) (hl : rlo ≤ w.heap.size) : AppL E n e (w.alloc (.cells #[] e)) rlo (some ⟨w.heap.size, 0, none⟩) 0 [] [] :=
  Or.inr ⟨w.heap.size, #[], rfl, hl, heap_alloc_new w _, Nat.le_refl _, by simp [maxLen], by simp, rfl, by simp⟩
theorem AppL.agree (hE : Elem E n) {w w' : World} {rlo cap : Nat} {a : Option Addr} {l : List α} {F : List Nat} (h : AppL E n e w rlo a cap l F) (hw : ∀ f, f < w.heap.size → w'.heap[f]? = w.heap[f]?) (hr : rlo ≤ w.heap.size) : AppL E n e w' rlo a cap l F := by
  rcases h with h | ⟨g, cur, ha, h1, h3, h4, h5, h6, h7, h8⟩
  · exact Or.inl h
  · have hg : g < w.heap.size := (Array.getElem?_eq_some_iff.1 h3).1
    exact Or.inr ⟨g, cur, ha, h1, (hw g hg).trans h3, h4, h5, h6, h7.agree hE.loc l (Cells.of_block (hw g hg) _ _) (fun f hf => hw f (by have := h8 f hf; omega)), h8⟩
theorem AppL.lt {w : World} {rlo cap : Nat} {a : Option Addr} {l : List α} {F : List Nat} (h : AppL E n e w rlo a cap l F) : ∀ f ∈ F, f < rlo := by
  rcases h with ⟨_, _, _, rfl⟩ | ⟨g, cur, ha, h1, h3, h4, h5, h6, h7, h8⟩
  · simp
  · exact h8
theorem AppL.own {w : World} {rlo lo cap : Nat} {a : Option Addr} {l : List α} {F : List Nat} (h : AppL E n e w rlo a cap l F) (hn : F.Nodup) (hlo : lo ≤ rlo) (hF : ∀ f ∈ F, lo ≤ f ∧ Unf w f) : Ow E n w lo w.heap.size a cap l := by
  rcases h with ⟨rfl, rfl, rfl, rfl⟩ | ⟨g, cur, rfl, h1, h3, h4, h5, h6, h7, h8⟩
  · exact Ow.nil _ _ _ _ _ (by simp [maxLen])
  · have hg : g < w.heap.size := (Array.getElem?_eq_some_iff.1 h3).1
    by_cases hl : l = []
    · subst hl; exact Ow.nil _ _ _ _ _ h5
    · refine ⟨g :: F, ⟨h4, h5, fun h => absurd h hl, fun _ => ⟨g, 0, F, rfl, rfl, h7⟩⟩, List.nodup_cons.2 ⟨fun hm => by have := h8 g hm; omega, hn⟩, ?_⟩
      intro f hf
      rcases List.mem_cons.1 hf with rfl | hf
      · exact ⟨by omega, hg, ⟨_, _, h3⟩⟩
      · exact ⟨(hF f hf).1, (hF f hf).2.lt, (hF f hf).2⟩
theorem AppL.owns {w : World} {rlo cap : Nat} {a : Option Addr} {l : List α} {F : List Nat} (h : AppL E n e w rlo a cap l F) :
    ∃ xs : List Value, w.ownsRow rlo e n (.slice a l.length cap) l.length xs ∧ xs.length = l.length * n ∧ ∀ g, a = some ⟨g, 0, none⟩ → ∀ i, i < l.length * n → w.cell? ⟨g, 0 + i, none⟩ = xs[i]? := by
  rcases h with ⟨rfl, rfl, rfl, rfl⟩ | ⟨g, cur, rfl, h1, h3, h4, h5, h6, h7, h8⟩
  · exact ⟨[], World.ownsRow_nil _ _ _ _, by simp, by simp⟩
  · have hle : l.length * n ≤ cur.size := by rw [h6]; exact Nat.mul_le_mul_right _ h4
    have hl : (cur.toList.take (l.length * n)).length = l.length * n := by simp; omega
    refine ⟨cur.toList.take (l.length * n), ⟨hl, Or.inr ⟨g, cap, cur, rfl, h1, h3, h4, h5, h6, rfl⟩⟩, hl, ?_⟩
    intro g2 hg2 i hi
    injection hg2 with hg2
    injection hg2 with hg2
    subst hg2
    rw [Nat.zero_add, List.getElem?_take, if_pos hi]
    simp [World.cell?, h3]
theorem AppL.grown (hE : Elem E n) {w w' : World} {rlo cap cap' : Nat} {a : Option Addr} {l ys : List α} {F G : List Nat} {b o g' : Nat} {news xs : List Value}
    (h : AppL E n e w rlo a cap l F) (hys : Row E n w b o ys G) (hG : ∀ f ∈ G, f < rlo) (hr : rlo ≤ w.heap.size)
    (hnl : news.length = ys.length * n) (hnc : ∀ i, i < ys.length * n → w.cell? ⟨b, o + i, none⟩ = news[i]?) (hxs : ∀ g, a = some ⟨g, 0, none⟩ → ∀ i, i < l.length * n → w.cell? ⟨g, 0 + i, none⟩ = xs[i]?) (hxl : xs.length = l.length * n)
    (hown : w'.ownsRow rlo e n (.slice (some ⟨g', 0, none⟩) (l.length + ys.length) cap') (l.length + ys.length) (xs ++ news)) (hgr : w.grownBy w' (Value.slice a l.length cap).ownBlock) :
    AppL E n e w' rlo (some ⟨g', 0, none⟩) cap' (l ++ ys) (F ++ G) ∧ Below rlo w w' := by
  have hrow : ∃ cur, w'.heap[g']? = some (.cells cur e (0, 0)) ∧ l.length + ys.length ≤ cap' ∧ cap' ≤ maxLen ∧ cur.size = cap' * n ∧ cur.toList.take ((l.length + ys.length) * n) = xs ++ news ∧ rlo ≤ g' := by
    rcases hown.2 with ⟨h0, _⟩ | ⟨g, cap2, cur, hv, hb, hg, h1, h2, h3, h4⟩
    · cases h0
    · injection hv with hv1 hv2 hv3
      injection hv1 with hv1
      injection hv1 with hv1
      subst hv1 hv3
      exact ⟨cur, hg, h1, h2, h3, h4, hb⟩
  obtain ⟨cur, r1, r2, r3, r4, r5, r6⟩ := hrow
  have hcell : ∀ i, i < (l.length + ys.length) * n → w'.cell? ⟨g', i, none⟩ = (xs ++ news)[i]? := by
    intro i hi
    rw [← r5, List.getElem?_take, if_pos hi]
    simp [World.cell?, r1]
  have hmul : (l.length + ys.length) * n = l.length * n + ys.length * n := Nat.add_mul _ _ _
  have hold : ∀ k, (Value.slice a l.length cap).ownBlock = some k → rlo ≤ k := by
    intro k hk
    rcases h with ⟨rfl, rfl, rfl, _⟩ | ⟨g, cur0, rfl, k1, _⟩
    · simp [Value.ownBlock] at hk
    · simp [Value.ownBlock] at hk; omega
  have hlow : ∀ f, f < rlo → w'.heap[f]? = w.heap[f]? := fun f hf => hgr.block f (by omega) (fun e => by have := hold f e.symm; omega)
  refine ⟨?_, hgr.os, hgr.tape, hgr.output, hgr.size, hlow⟩
  have hyr : Row E n w' g' (0 + l.length * n) ys G := by
    refine hys.mov hE ys (fun i hi => ?_) (fun f hf => hlow f (hG f hf))
    rw [Nat.zero_add, hcell _ (by omega), List.getElem?_append_right (by omega), hnc i hi, hxl]
    congr 1; omega
  rcases h with ⟨rfl, rfl, rfl, rfl⟩ | ⟨g, cur0, rfl, k1, h3, h4, h5, h6, h7, h8⟩
  · exact Or.inr ⟨g', cur, rfl, r6, r1, by simpa using r2, r3, r4, by simpa using hyr, by simpa using hG⟩
  · have hlr : Row E n w' g' 0 l F := by
      refine h7.mov hE l (fun i hi => ?_) (fun f hf => hlow f (h8 f hf))
      rw [Nat.zero_add, hcell _ (by omega), List.getElem?_append_left (by omega)]
      have := hxs g rfl i hi
      rw [Nat.zero_add] at this
      exact this.symm
    refine Or.inr ⟨g', cur, rfl, r6, r1, by simpa using r2, r3, r4, hlr.append hyr, fun f hf => ?_⟩
    rcases List.mem_append.1 hf with hf | hf
    · exact h8 f hf
    · exact hG f hf
theorem wpList_appL {P : Program} {w : World} (hE : Elem E n) {ops : Array Oper} {rest : List Oper} {o : Oper} {act : Act} {Q : Exit → Act → World → Prop} (hgd : o.guard = none) (s x : Operand) (t : TypeId)
    (ho : o.op = .call { callee := .builtin .append, args := #[s, x], argTypes := #[t, t] }) (z : Value) (bytes : Nat) (ht : P.underlying t = some (.slice e)) (hinfo : (P.info? e).map (fun i => (i.zero, i.size, i.bytes)) = some (some z, n, bytes)) (hzs : z.cells.size = n)
    (rlo : Nat) (a : Option Addr) (cap : Nat) (l : List α) (F : List Nat) (hs : act.eval s = .slice a l.length cap) (happ : AppL E n e w rlo a cap l F) (hlo : rlo ≤ w.heap.size)
    (b off m c : Nat) (ys : List α) (G : List Nat) (hx : act.eval x = .slice (some ⟨b, off, none⟩) m c) (hm : ys.length = m) (hys : Row E n w b off ys G) (hG : ∀ f ∈ G, f < rlo)
    (hpos : 0 < m) (h63 : l.length + m ≤ maxLen) (hbytes : (l.length + m) * bytes ≤ 140737488355328)
    (h : ∀ a' cap' w', AppL E n e w' rlo a' cap' (l ++ ys) (F ++ G) → Below rlo w w' → wpList P ops Q rest (act.put o.dst (.slice a' (l ++ ys).length cap')) w') : wpList P ops Q (o :: rest) act w := by
  obtain ⟨i, hi', hz0, hz1, hz2⟩ := info_parts hinfo
  obtain ⟨xs, q1, q2, q3⟩ := happ.owns
  subst hm
  obtain ⟨news, n1, n2, n3⟩ := cells_list (hys.cel hE ys)
  refine wpList_append_lies w hgd s x t ho rlo e i z n bytes ht hi' hz0 hz1 hz2 hzs hE.pos (.slice a l.length cap) l.length xs hs q1 ⟨b, off, none⟩ ys.length c news hx n1 (fun j u hj => ?_) n3 hpos h63 hbytes hlo w.heap.size rfl (fun g' cap' w' hown hgr hat hlt => ?_)
  · have hj2 : j < ys.length * n := by
      rcases Nat.lt_or_ge j (ys.length * n) with h | h
      · exact h
      · rw [List.getElem?_eq_none (by omega)] at hj; cases hj
    rw [← hj, ← n2 j hj2, Addr.add_lit]
  · obtain ⟨r1, r2⟩ := AppL.grown hE happ hys hG hlo n1 n2 q3 q2 hown hgr
    have := h _ _ w' r1 r2
    rwa [List.length_append] at this
/-- The same at a step of a region that draws. -/
theorem step_appL {P : Program} {w : World} (hE : Elem E n) {ops : Array Oper} {o : Oper} {act : Act} {K : Act → World → Prop} {Q : Exit → Act → World → Prop} {X : Prop} (hgd : o.guard = none) (s x : Operand) (t : TypeId)
    (ho : o.op = .call { callee := .builtin .append, args := #[s, x], argTypes := #[t, t] }) (z : Value) (bytes : Nat) (ht : P.underlying t = some (.slice e)) (hinfo : (P.info? e).map (fun i => (i.zero, i.size, i.bytes)) = some (some z, n, bytes)) (hzs : z.cells.size = n)
    (rlo : Nat) (a : Option Addr) (cap : Nat) (l : List α) (F : List Nat) (hs : act.eval s = .slice a l.length cap) (happ : AppL E n e w rlo a cap l F) (hlo : rlo ≤ w.heap.size)
    (b off m c : Nat) (ys : List α) (G : List Nat) (hx : act.eval x = .slice (some ⟨b, off, none⟩) m c) (hm : ys.length = m) (hys : Row E n w b off ys G) (hG : ∀ f ∈ G, f < rlo)
    (hpos : 0 < m) (h63 : l.length + m ≤ maxLen) (hbytes : (l.length + m) * bytes ≤ 140737488355328)
    (h : ∀ a' cap' w', AppL E n e w' rlo a' cap' (l ++ ys) (F ++ G) → Below rlo w w' → K (act.put o.dst (.slice a' (l ++ ys).length cap')) w') : if Region.wanted o (yielded ops act.tmps) = true then Oper.wp P o act w K Q else X := by
  obtain ⟨i, hi', hz0, hz1, hz2⟩ := info_parts hinfo
  obtain ⟨xs, q1, q2, q3⟩ := happ.owns
  subst hm
  obtain ⟨news, n1, n2, n3⟩ := cells_list (hys.cel hE ys)
  refine step_append_lies w hgd s x t ho rlo e i z n bytes ht hi' hz0 hz1 hz2 hzs hE.pos (.slice a l.length cap) l.length xs hs q1 ⟨b, off, none⟩ ys.length c news hx n1 (fun j u hj => ?_) n3 hpos h63 hbytes hlo w.heap.size rfl (fun g' cap' w' hown hgr hat hlt => ?_)
  · have hj2 : j < ys.length * n := by
      rcases Nat.lt_or_ge j (ys.length * n) with h | h
      · exact h
      · rw [List.getElem?_eq_none (by omega)] at hj; cases hj
    rw [← hj, ← n2 j hj2, Addr.add_lit]
  · obtain ⟨r1, r2⟩ := AppL.grown hE happ hys hG hlo n1 n2 q3 q2 hown hgr
    have := h _ _ w' r1 r2
    rwa [List.length_append] at this
end
end Go.Proofs.Ytmajklgjmghjlaa
