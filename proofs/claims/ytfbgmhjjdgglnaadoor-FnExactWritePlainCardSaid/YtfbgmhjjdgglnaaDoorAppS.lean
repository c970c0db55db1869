/- Contracts and lemmas for the proofs of this seat: AppS. No condition beyond those stated. -/
import Derived.Test.YtfbgmhjjdgglnaaDoorRows
import Derived.WalkKit
import Derived.ProofKit
import Derived.OpenShut
import Derived.Handy
import Derived.Lib.Hide
import Derived.Lib.SmallJoins
import Derived.Laws.BytesArg
import Derived.Deep.RegionHeld3
import Derived.Deep.AppendLies
import Derived.Deep.QuietTactic
import Derived.BigQuiet
import Derived.Lib.AppendStr
import Derived.Lib.ValidAsc
import Derived.Test.YtfbgmhjjdgglnaaDoorBase
import Derived.Test.YtfbgmhjjdgglnaaDoorGen
import Derived.Test.YtfbgmhjjdgglnaaDoorKit
import Derived.Test.YtfbgmhjjdgglnaaDoorMark
import Derived.Test.YtfbgmhjjdgglnaaDoorApp
import Derived.Test.YtfbgmhjjdgglnaaDoorMarkV
import Derived.Test.YtfbgmhjjdgglnaaDoorLawVal
import Derived.Test.YtfbgmhjjdgglnaaDoorCopy
import Derived.Test.YtfbgmhjjdgglnaaDoorPathAt
import Derived.Test.YtfbgmhjjdgglnaaDoorPathAt2
import Derived.Test.YtfbgmhjjdgglnaaDoorSame2
import Derived.Test.YtfbgmhjjdgglnaaDoorOnce
namespace Go.Proofs.YtfbgmhjjdgglnaaDoor
open Go.ChangeShapes Go.WideShapes Go.ChangeAt Go.RowKit Go.Joins
set_option linter.unusedVariables false
set_option maxRecDepth 100000
/-- A text's bytes, as numbers. -/
def byteL (s : ByteArray) : List Int := s.data.toList.map fun b => (b.toNat : Int)
theorem byteL_len (s : ByteArray) : (byteL s).length = s.size := by unfold byteL; rw [List.length_map, ← Lib.size_eq]
theorem byteL_append (a b : ByteArray) : byteL (a ++ b) = byteL a ++ byteL b := by unfold byteL; simp [ByteArray.data_append]
theorem byteL_str (s : ByteArray) : strOfNums (byteL s) = s := by
  unfold strOfNums byteL
  apply ByteArray.ext; apply Array.ext'
  simp only [List.map_map]
  exact (List.map_congr_left (fun b _ => by simp)).trans (List.map_id _)
theorem byteL_u8 (s : ByteArray) : ∀ x ∈ byteL s, U8 x := by
  intro x hx
  obtain ⟨b, _, rfl⟩ := List.mem_map.1 hx
  have := b.toNat_lt
  exact ⟨by omega, by omega⟩
theorem byteL_cells (s : ByteArray) : (byteL s).map (Value.int .u8) = Lib.strCells s := by unfold byteL Lib.strCells; rw [List.map_map]; rfl
theorem row_bytes {w : World} {g : Nat} : ∀ (l : List Int) (o : Nat), (∀ x ∈ l, U8 x) → (∀ i (h : i < l.length), w.cell? ⟨g, o + i, none⟩ = some (.int .u8 l[i])) → Row EByte 1 w g o l [] := by
  intro l
  induction l with
  | nil => intro o _ _; rfl
  | cons x r ih =>
    intro o hu hc
    refine ⟨[], [], rfl, ⟨rfl, by have := hc 0 (by simp); simpa using this, hu x (by simp)⟩, ih (o + 1) (fun y hy => hu y (by simp [hy])) (fun i h => ?_)⟩
    have := hc (i + 1) (by simp; omega)
    rw [show o + 1 + i = o + (i + 1) from by omega]
    simpa using this
theorem appL_bytes {w : World} {base : Nat} {e : TypeId} {v : Value} {n : Nat} {l : List Int} (hu : ∀ x ∈ l, U8 x) (hn : n = l.length) (h : w.ownsRow base e 1 v n (l.map (Value.int .u8))) : ∃ a cap, v = .slice a l.length cap ∧ AppL EByte 1 e w base a cap l [] := by
  subst hn
  obtain ⟨h0, ⟨rfl, hz⟩ | ⟨g, cap, cur, rfl, h1, h2, h3, h4, h5, h6⟩⟩ := h
  · have : l = [] := List.eq_nil_of_length_eq_zero hz
    subst this
    exact ⟨none, 0, rfl, Or.inl ⟨rfl, rfl, rfl, rfl⟩⟩
  · refine ⟨some ⟨g, 0, none⟩, cap, rfl, Or.inr ⟨g, cur, rfl, h1, h2, h3, h4, h5, row_bytes l 0 hu (fun i hi => ?_), by simp⟩⟩
    have e1 : (cur.toList.take (l.length * 1))[i]? = some (.int .u8 l[i]) := by rw [h6]; simp [hi]
    rw [List.getElem?_take, if_pos (by omega)] at e1
    rw [Nat.zero_add]
    simp [World.cell?, h2]
    simpa using e1
/-- append(out, s...) of a string. -/
theorem wpList_appStr {P : Program} {w : World} {ops : Array Oper} {rest : List Oper} {o : Oper} {act : Act} {Q : Exit → Act → World → Prop} {e : TypeId} (hgd : o.guard = none) (sl x : Operand) (t u : TypeId)
    (ho : o.op = .call { callee := .builtin .append, args := #[sl, x], argTypes := #[t, u] }) (ht : P.underlying t = some (.slice e)) (hu : P.underlying u = some .string) (hinfo : (P.info? e).map (fun i => (i.zero, i.size, i.bytes)) = some (some (.int .u8 0), 1, 1))
    (rlo : Nat) (a : Option Addr) (cap : Nat) (l : List Int) (hl : ∀ x ∈ l, U8 x) (hs : act.eval sl = .slice a l.length cap) (happ : AppL EByte 1 e w rlo a cap l []) (hlo : rlo ≤ w.heap.size) (s : ByteArray) (hx : act.eval x = .string s)
    (hbytes : l.length + s.size ≤ 140737488355328)
    (h : ∀ a' cap' w', AppL EByte 1 e w' rlo a' cap' (l ++ byteL s) [] → Below rlo w w' → (∀ f, f < w.heap.size → (∀ k, (Value.slice a l.length cap).ownBlock = some k → f ≠ k) → w'.heap[f]? = w.heap[f]?) → w.heap.size ≤ w'.heap.size → wpList P ops Q rest (act.put o.dst (.slice a' (l ++ byteL s).length cap')) w') : wpList P ops Q (o :: rest) act w := by
  obtain ⟨i, hi', hz0, hz1, hz2⟩ := info_parts hinfo
  obtain ⟨xs, q1, q2, q3⟩ := happ.owns
  have hxs : xs = l.map (Value.int .u8) := by
    rcases happ with ⟨rfl, rfl, rfl, _⟩ | ⟨g, cur, rfl, h1, h3, h4, h5, h6, h7, h8⟩
    · exact List.eq_nil_of_length_eq_zero (by simpa using q2)
    · apply List.ext_getElem?
      intro j
      by_cases hj : j < l.length
      · obtain ⟨F', hv, _⟩ := h7.get j hj
        have := q3 g rfl j (by omega)
        rw [← this]
        have hv2 := hv.2.1
        rw [Nat.mul_one] at hv2
        rw [hv2]; simp [hj]
      · rw [List.getElem?_eq_none (by omega), List.getElem?_eq_none (by simp; omega)]
  subst hxs
  refine Lib.wpList_append_own_string w hgd sl x t u ho rlo e i ht hu hi' hz0 hz1 hz2 (.slice a l.length cap) l.length (l.map (Value.int .u8)) hs q1 s hx (by unfold maxLen; omega) hbytes hlo (fun v' w' hown hgr _ => ?_)
  rw [← byteL_cells, ← List.map_append] at hown
  obtain ⟨a', cap', rfl, happ'⟩ := appL_bytes (fun x hx => by rcases List.mem_append.1 hx with h | h; exact hl x h; exact byteL_u8 s x h) (by rw [List.length_append, byteL_len]) hown
  have hlow : ∀ k, (Value.slice a l.length cap).ownBlock = some k → rlo ≤ k := fun k hk => (by
    rcases happ with ⟨rfl, rfl, rfl, _⟩ | ⟨g, cur, rfl, k1, _⟩
    · simp [Value.ownBlock] at hk
    · simp only [Value.ownBlock, Option.some.injEq] at hk; omega)
  exact h a' cap' w' happ' ⟨hgr.os, hgr.tape, hgr.output, hgr.size, fun f hf => hgr.block f (by omega) (fun e => by have := hlow f e.symm; omega)⟩ (fun f hf hne => hgr.block f hf (fun e => hne f e.symm rfl)) hgr.size
end Go.Proofs.YtfbgmhjjdgglnaaDoor
