/- Contracts and lemmas for the proofs of this seat: Copy. No condition beyond those stated. -/
import Derived.Test.YtmajklgjmghjlaaRows
import Derived.WalkKit
import Derived.ProofKit
import Derived.OpenShut
import Derived.Handy
import Derived.Lib.Hide
import Derived.Lib.SmallJoins
import Derived.Deep.RegionHeld3
import Derived.Deep.AppendLies
import Derived.Test.YtmajklgjmghjlaaBase
import Derived.Test.YtmajklgjmghjlaaGen
import Derived.Test.YtmajklgjmghjlaaKit
import Derived.Test.YtmajklgjmghjlaaMark
import Derived.Test.YtmajklgjmghjlaaApp
import Derived.Test.YtmajklgjmghjlaaMarkV
import Derived.Test.YtmajklgjmghjlaaLawVal
namespace Go.Proofs.Ytmajklgjmghjlaa
open Go.ChangeShapes Go.WideShapes Go.ChangeAt Go.RowKit Go.Joins
set_option linter.unusedVariables false
set_option maxRecDepth 100000
section
variable {α : Type} {E : World → Nat → Nat → α → List Nat → Prop} {n : Nat} {e : TypeId} {nd : Prop}
theorem App.row {w : World} {lo hi cap : Nat} {a : Option Addr} {l : List α} (h : App E n e nd w lo hi a cap l) : ∀ k, (Value.slice a l.length cap).ownBlock = some k → lo ≤ k ∧ k < hi := by
  intro k hk
  rcases h with ⟨rfl, rfl, rfl⟩ | ⟨g, cur, F, rfl, k1, k2, _⟩
  · simp [Value.ownBlock] at hk
  · simp only [Value.ownBlock, Option.some.injEq] at hk; subst hk; exact ⟨k1, k2⟩
/-- Append of one element whose own blocks are all new. -/
theorem wpList_app1 {P : Program} {w : World} (hE : Elem E n) {ops : Array Oper} {rest : List Oper} {o : Oper} {act : Act} {Q : Exit → Act → World → Prop} (hgd : o.guard = none) (s x : Operand) (t : TypeId)
    (ho : o.op = .call { callee := .builtin .append, args := #[s, x], argTypes := #[t, t] }) (z : Value) (bytes : Nat) (ht : P.underlying t = some (.slice e)) (hinfo : (P.info? e).map (fun i => (i.zero, i.size, i.bytes)) = some (some z, n, bytes)) (hzs : z.cells.size = n)
    (lo hi : Nat) (a : Option Addr) (cap : Nat) (l : List α) (hs : act.eval s = .slice a l.length cap) (happ : App E n e nd w lo hi a cap l) (hhi : hi ≤ w.heap.size) (hlo : lo ≤ hi)
    (b off c : Nat) (y : α) (G : List Nat) (hx : act.eval x = .slice (some ⟨b, off, none⟩) 1 c) (hys : E w b off y G) (hG : G.Nodup) (hG2 : ∀ f ∈ G, hi ≤ f ∧ f < w.heap.size ∧ Unf w f)
    (h63 : l.length + 1 ≤ maxLen) (hbytes : (l.length + 1) * bytes ≤ 140737488355328)
    (h : ∀ a' cap' w', App E n e nd w' lo w'.heap.size a' cap' (l ++ [y]) → Below lo w w' → (∀ f, f < w.heap.size → (∀ k, (Value.slice a l.length cap).ownBlock = some k → f ≠ k) → w'.heap[f]? = w.heap[f]?) → wpList P ops Q rest (act.put o.dst (.slice a' (l ++ [y]).length cap')) w') : wpList P ops Q (o :: rest) act w :=
  wpList_app hE hgd s x t ho z bytes ht hinfo hzs lo hi a cap l hs happ hhi (Nat.le_trans hlo hhi) b off 1 c [y] G hx rfl ⟨G, [], by simp, hys, rfl⟩ (fun _ => hG)
    (fun f hf => ⟨Nat.le_trans hlo (hG2 f hf).1, (hG2 f hf).2.1, (hG2 f hf).2.2, fun k hk => by have := (happ.row k hk).2; have := (hG2 f hf).1; omega⟩) (fun _ f hf => (hG2 f hf).1) (by omega) h63 hbytes h
end
theorem App.agree {α : Type} {E : World → Nat → Nat → α → List Nat → Prop} {n : Nat} {e : TypeId} {nd : Prop} (hE : Elem E n) {w w' : World} {lo hi cap : Nat} {a : Option Addr} {l : List α} (h : App E n e nd w lo hi a cap l) (hw : ∀ f, lo ≤ f → f < hi → w'.heap[f]? = w.heap[f]?) : App E n e nd w' lo hi a cap l := by
  rcases h with h | ⟨g, cur, F, ha, h1, h2, h3, h4, h5, h6, h7, h8, h9, h10⟩
  · exact Or.inl h
  · have hf : ∀ f ∈ F, w'.heap[f]? = w.heap[f]? := fun f hf => hw f (h10 f hf).1 (h10 f hf).2.1
    refine Or.inr ⟨g, cur, F, ha, h1, h2, (hw g h1 h2).trans h3, h4, h5, h6, h7.agree hE.loc l (Cells.of_block (hw g h1 h2) _ _) hf, h8, h9, fun f hm => ⟨(h10 f hm).1, (h10 f hm).2.1, (h10 f hm).2.2.agree (hf f hm)⟩⟩
theorem Is.set {w : World} {g : Nat} {e : TypeId} {cs : Array Value} (h : Is w g e cs) (i : Nat) (v : Value) : Is (w.setCell ⟨g, i, none⟩ v) g e (cs.setIfInBounds i v) := by
  unfold Is at *
  simp [World.setCell, Array.getElem?_modify, h]
theorem Is.miss {w : World} {g : Nat} {e : TypeId} {cs : Array Value} (h : Is w g e cs) (b i : Nat) (hb : g ≠ b) (v : Value) : Is (w.setCell ⟨b, i, none⟩ v) g e cs := (heap_miss w b i g hb v).trans h
theorem TV.box {w : World} {a : Option Addr} {cap : Nat} {t : T} {G : List Nat} (e : TypeId) (h : TL w a cap t.l G) (hwf : Wf t) (hG : ∀ f ∈ G, f < w.heap.size) : TV (w.alloc (.cells (cV t a cap) e)) w.heap.size 0 t G := by
  obtain ⟨c0, c1, c2, c3, c4⟩ := (Is.new w (cV t a cap) e).cells5
  rw [← T.eta t, TV.iff]
  exact ⟨c0, c1, c2, c3, hwf.1, hwf.2.1, hwf.2.2.1, hwf.2.2.2, a, cap, c4, h.agree (fun f hf => (below1 w _).block f (hG f hf))⟩
theorem Unf.alloc {w : World} {f : Nat} (h : Unf w f) (o : Obj) : Unf (w.alloc o) f := h.agree ((below1 w o).block f h.lt)
theorem out5 {W : World} {g : Nat} {e : TypeId} (hk : Blk W g e 5) (v0 v1 v2 v3 v4 : Value) (B : Nat) (hB : B ≤ g) :
    (((((W.setCell ⟨g, 0, none⟩ v0).setCell ⟨g, 1, none⟩ v1).setCell ⟨g, 2, none⟩ v2).setCell ⟨g, 3, none⟩ v3).setCell ⟨g, 4, none⟩ v4).cell? ⟨g, 0, none⟩ = some v0 ∧
    (((((W.setCell ⟨g, 0, none⟩ v0).setCell ⟨g, 1, none⟩ v1).setCell ⟨g, 2, none⟩ v2).setCell ⟨g, 3, none⟩ v3).setCell ⟨g, 4, none⟩ v4).cell? ⟨g, 1, none⟩ = some v1 ∧
    (((((W.setCell ⟨g, 0, none⟩ v0).setCell ⟨g, 1, none⟩ v1).setCell ⟨g, 2, none⟩ v2).setCell ⟨g, 3, none⟩ v3).setCell ⟨g, 4, none⟩ v4).cell? ⟨g, 2, none⟩ = some v2 ∧
    (((((W.setCell ⟨g, 0, none⟩ v0).setCell ⟨g, 1, none⟩ v1).setCell ⟨g, 2, none⟩ v2).setCell ⟨g, 3, none⟩ v3).setCell ⟨g, 4, none⟩ v4).cell? ⟨g, 3, none⟩ = some v3 ∧
    (((((W.setCell ⟨g, 0, none⟩ v0).setCell ⟨g, 1, none⟩ v1).setCell ⟨g, 2, none⟩ v2).setCell ⟨g, 3, none⟩ v3).setCell ⟨g, 4, none⟩ v4).cell? ⟨g, 4, none⟩ = some v4 ∧
    Below B W (((((W.setCell ⟨g, 0, none⟩ v0).setCell ⟨g, 1, none⟩ v1).setCell ⟨g, 2, none⟩ v2).setCell ⟨g, 3, none⟩ v3).setCell ⟨g, 4, none⟩ v4) ∧
    (∀ f, f ≠ g → (((((W.setCell ⟨g, 0, none⟩ v0).setCell ⟨g, 1, none⟩ v1).setCell ⟨g, 2, none⟩ v2).setCell ⟨g, 3, none⟩ v3).setCell ⟨g, 4, none⟩ v4).heap[f]? = W.heap[f]?) ∧
    (((((W.setCell ⟨g, 0, none⟩ v0).setCell ⟨g, 1, none⟩ v1).setCell ⟨g, 2, none⟩ v2).setCell ⟨g, 3, none⟩ v3).setCell ⟨g, 4, none⟩ v4).heap.size = W.heap.size := by
  obtain ⟨e0, e1, e2, e3, e4⟩ := st5_reads (o := 0) (v0 := v0) (v1 := v1) (v2 := v2) (v3 := v3) (v4 := v4) hk (by omega)
  have hb := st5_below (w := W) (g := g) (o := 0) (v0 := v0) (v1 := v1) (v2 := v2) (v3 := v3) (v4 := v4) B hB
  have hh := fun f (hf : f ≠ g) => st5_heap (w := W) (g := g) (o := 0) (v0 := v0) (v1 := v1) (v2 := v2) (v3 := v3) (v4 := v4) f hf
  have hs := st5_size (w := W) (g := g) (o := 0) (v0 := v0) (v1 := v1) (v2 := v2) (v3 := v3) (v4 := v4)
  simp only [st5, Nat.zero_add] at e0 e1 e2 e3 e4 hb hh hs
  exact ⟨e0, e1, e2, e3, e4, hb, hh, hs⟩
abbrev zV : Array Value := #[Value.int IntKind.i64 0, Value.int IntKind.i64 0, Value.int IntKind.i64 0, Value.string ⟨#[]⟩, Value.slice none 0 0]
end Go.Proofs.Ytmajklgjmghjlaa
