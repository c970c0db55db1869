/- Contracts and lemmas for the proofs of this seat: AppG. No condition beyond those stated. -/
import Derived.Test.YtmajklgjmghjlaaRows
import Derived.WalkKit
import Derived.ProofKit
import Derived.OpenShut
import Derived.Handy
import Derived.Lib.Hide
import Derived.Lib.SmallJoins
import Derived.Deep.AppendLies
import Derived.Deep.AppendSrc
import Derived.Deep.Upon
import Derived.Lib.AppendZeros
import Derived.Deep.RegionHeld3
import Derived.Deep.QuietTactic
import Derived.BigQuiet
import Derived.Test.YtmajklgjmghjlaaBase
import Derived.Test.YtmajklgjmghjlaaGen
import Derived.Test.YtmajklgjmghjlaaKit
import Derived.Test.YtmajklgjmghjlaaMark
import Derived.Test.YtmajklgjmghjlaaApp
import Derived.Test.YtmajklgjmghjlaaMarkV
import Derived.Test.YtmajklgjmghjlaaLawVal
import Derived.Test.YtmajklgjmghjlaaCopy
import Derived.Test.YtmajklgjmghjlaaOnceA
namespace Go.Proofs.Ytmajklgjmghjlaa
open Go.ChangeShapes Go.WideShapes Go.ChangeAt Go.RowKit Go.Joins
set_option linter.unusedVariables false
set_option maxRecDepth 100000
/-! ### Append of whatever slice, empty or not: as an equation of the run -/
section
variable {α : Type} {E : World → Nat → Nat → α → List Nat → Prop} {n : Nat} {e : TypeId} {nd : Prop}
/-- What is appended: the slice value holds ys, whose own blocks are G. -/
def Srcs (E : World → Nat → Nat → α → List Nat → Prop) (n : Nat) (w : World) (a : Option Addr) (ys : List α) (G : List Nat) : Prop :=
  (ys = [] → G = []) ∧ (ys ≠ [] → ∃ b o, a = some ⟨b, o, none⟩ ∧ Row E n w b o ys G)
theorem Srcs.agree (hE : Elem E n) {w w' : World} {a : Option Addr} {ys : List α} {G : List Nat} (h : Srcs E n w a ys G) (hb : ∀ b o, a = some ⟨b, o, none⟩ → ys ≠ [] → w'.heap[b]? = w.heap[b]?) (hG : Agree w w' G) : Srcs E n w' a ys G := by
  refine ⟨h.1, fun hne => ?_⟩
  obtain ⟨b, o, ha, hr⟩ := h.2 hne
  exact ⟨b, o, ha, hr.agree hE.loc ys (Cells.of_block (hb b o ha hne) _ _) hG⟩
theorem Srcs.one {w : World} {b o : Nat} {y : α} {G : List Nat} (h : E w b o y G) : Srcs E n w (some ⟨b, o, none⟩) [y] G :=
  ⟨fun h => absurd h (by simp), fun _ => ⟨b, o, rfl, G, [], by simp, h, rfl⟩⟩
theorem run_append_zero {P : Program} (w : World) (t ty e : TypeId) (i : TypeInfo) (ht : P.underlying t = some (.slice e)) (hi : P.info? e = some i) (a a2 : Option Addr) (k cap c2 : Nat) (hk : k ≤ cap) :
    (Builtin.append_ #[t, t] ty #[.slice a k cap, .slice a2 0 c2]).run P w = .ok (.slice a k cap) w := by
  cases a2 with
  | none => exact run_append_nothing w t t ty e i ht hi a k cap hk _ (Src.ofNil w ht c2)
  | some ad => exact run_append_nothing w t t ty e i ht hi a k cap hk _ (Src.ofSlice w ht ad 0 c2 [] (by simp) (by simp) (by simp))
/-- A list whose elements' blocks lie below rlo. -/
theorem run_appL {P : Program} (w : World) (hE : Elem E n) (t ty : TypeId) (z : Value) (bytes : Nat) (ht : P.underlying t = some (.slice e)) (hinfo : (P.info? e).map (fun i => (i.zero, i.size, i.bytes)) = some (some z, n, bytes)) (hzs : z.cells.size = n)
    (rlo : Nat) (a : Option Addr) (cap : Nat) (l : List α) (F : List Nat) (happ : AppL E n e w rlo a cap l F) (hlo : rlo ≤ w.heap.size) (hcap : l.length ≤ cap)
    (a2 : Option Addr) (c2 : Nat) (ys : List α) (G : List Nat) (hys : Srcs E n w a2 ys G) (hG : ∀ f ∈ G, f < rlo) (h63 : l.length + ys.length ≤ maxLen) (hbytes : (l.length + ys.length) * bytes ≤ 140737488355328) :
    ∃ a' cap' w', (Builtin.append_ #[t, t] ty #[.slice a l.length cap, .slice a2 ys.length c2]).run P w = .ok (.slice a' (l ++ ys).length cap') w' ∧ AppL E n e w' rlo a' cap' (l ++ ys) (F ++ G) ∧ Below rlo w w' ∧
      (∀ f, f < w.heap.size → (∀ k, (Value.slice a l.length cap).ownBlock = some k → f ≠ k) → w'.heap[f]? = w.heap[f]?) ∧ (∀ k, (Value.slice a' (l ++ ys).length cap').ownBlock = some k → (Value.slice a l.length cap).ownBlock = some k ∨ k = w.heap.size) ∧ w.heap.size ≤ w'.heap.size := by
  obtain ⟨i, hi', hz0, hz1, hz2⟩ := info_parts hinfo
  by_cases hne : ys = []
  · subst hne
    rw [hys.1 rfl]
    simp only [List.append_nil]
    exact ⟨a, cap, w, run_append_zero w t ty e i ht hi' a a2 l.length cap c2 hcap, happ, Below.refl _ _, fun _ _ _ => rfl, fun k hk => Or.inl hk, Nat.le_refl _⟩
  · obtain ⟨b, off, rfl, hrow⟩ := hys.2 hne
    obtain ⟨xs, q1, q2, q3⟩ := happ.owns
    obtain ⟨news, n1, n2, n3⟩ := cells_list (hrow.cel hE ys)
    have hpos : 0 < ys.length := List.length_pos_iff.2 hne
    obtain ⟨g', cap', w', hr, hown, hgr, hat, hlt⟩ := run_append_lies (P := P) w t ty rlo e i z n bytes ht hi' hz0 hz1 hz2 hzs hE.pos (.slice a l.length cap) l.length xs q1 ⟨b, off, none⟩ ys.length c2 news n1 (fun j u hj => by
      have hj2 : j < ys.length * n := by
        rcases Nat.lt_or_ge j (ys.length * n) with h | h
        · exact h
        · rw [List.getElem?_eq_none (by omega)] at hj; cases hj
      rw [← hj, ← n2 j hj2, Addr.add_lit]) n3 hpos h63 hbytes hlo w.heap.size rfl
    obtain ⟨r1, r2⟩ := AppL.grown hE happ hrow hG hlo n1 n2 q3 q2 hown hgr
    rw [List.length_append]
    exact ⟨_, cap', w', hr, r1, r2, fun f hf hne => hgr.block f hf (fun e => hne f e.symm rfl), fun k hk => by
      have hk' : k = g' := by
        simp only [Value.ownBlock] at hk
        first | exact (Option.some.inj hk).symm | (split at hk <;> simp_all)
      subst hk'; exact hat, hgr.size⟩
/-- A list whose elements' blocks are its own. -/
theorem run_app {P : Program} (w : World) (hE : Elem E n) (t ty : TypeId) (z : Value) (bytes : Nat) (ht : P.underlying t = some (.slice e)) (hinfo : (P.info? e).map (fun i => (i.zero, i.size, i.bytes)) = some (some z, n, bytes)) (hzs : z.cells.size = n)
    (lo hi : Nat) (a : Option Addr) (cap : Nat) (l : List α) (happ : App E n e nd w lo hi a cap l) (hhi : hi ≤ w.heap.size) (hlo : lo ≤ hi)
    (a2 : Option Addr) (c2 : Nat) (ys : List α) (G : List Nat) (hys : Srcs E n w a2 ys G) (hG : G.Nodup) (hG2 : ∀ f ∈ G, hi ≤ f ∧ f < w.heap.size ∧ Unf w f) (h63 : l.length + ys.length ≤ maxLen) (hbytes : (l.length + ys.length) * bytes ≤ 140737488355328) :
    ∃ a' cap' w', (Builtin.append_ #[t, t] ty #[.slice a l.length cap, .slice a2 ys.length c2]).run P w = .ok (.slice a' (l ++ ys).length cap') w' ∧ App E n e nd w' lo w'.heap.size a' cap' (l ++ ys) ∧ Below lo w w' ∧
      (∀ f, f < w.heap.size → (∀ k, (Value.slice a l.length cap).ownBlock = some k → f ≠ k) → w'.heap[f]? = w.heap[f]?) ∧ w.heap.size ≤ w'.heap.size := by
  obtain ⟨i, hi', hz0, hz1, hz2⟩ := info_parts hinfo
  have hcap := happ.len.1
  by_cases hne : ys = []
  · subst hne
    simp only [List.append_nil]
    exact ⟨a, cap, w, run_append_zero w t ty e i ht hi' a a2 l.length cap c2 hcap, happ.more (Nat.le_refl _) hhi, Below.refl _ _, fun _ _ _ => rfl, Nat.le_refl _⟩
  · obtain ⟨b, off, rfl, hrow⟩ := hys.2 hne
    obtain ⟨xs, q1, q2, q3⟩ := happ.owns hE
    obtain ⟨news, n1, n2, n3⟩ := cells_list (hrow.cel hE ys)
    have hpos : 0 < ys.length := List.length_pos_iff.2 hne
    obtain ⟨g', cap', w', hr, hown, hgr, hat, hlt⟩ := run_append_lies (P := P) w t ty lo e i z n bytes ht hi' hz0 hz1 hz2 hzs hE.pos (.slice a l.length cap) l.length xs q1 ⟨b, off, none⟩ ys.length c2 news n1 (fun j u hj => by
      have hj2 : j < ys.length * n := by
        rcases Nat.lt_or_ge j (ys.length * n) with h | h
        · exact h
        · rw [List.getElem?_eq_none (by omega)] at hj; cases hj
      rw [← hj, ← n2 j hj2, Addr.add_lit]) n3 hpos h63 hbytes (by omega) w.heap.size rfl
    obtain ⟨r1, r2, r3⟩ := App.grown hE happ hhi hrow (fun _ => hG) (fun f hf => ⟨Nat.le_trans hlo (hG2 f hf).1, (hG2 f hf).2.1, (hG2 f hf).2.2, fun k hk => by have := (happ.row k hk).2; have := (hG2 f hf).1; omega⟩) (fun _ f hf => (hG2 f hf).1) n1 n2 q3 q2 hown hgr hat hlt
    rw [List.length_append]
    exact ⟨_, cap', w', hr, r1, r2 (by omega), r3, hgr.size⟩
/-- Elements that have no blocks of their own. -/
def Flat (E : World → Nat → Nat → α → List Nat → Prop) : Prop := ∀ (x : α) (w : World) (b o : Nat) (F : List Nat), E w b o x F → F = []
theorem Row.flat (hf : Flat E) {w : World} {b : Nat} : ∀ (l : List α) (o : Nat) (F : List Nat), Row E n w b o l F → F = [] := by
  intro l
  induction l with
  | nil => intro o F h; exact h
  | cons x r ih =>
    intro o F h
    obtain ⟨F1, F2, rfl, h1, h2⟩ := h
    rw [hf x w b o F1 h1, ih _ _ h2]; rfl
theorem Rd.srcs (hf : Flat E) {w : World} {B cap : Nat} {a : Option Addr} {l : List α} (h : Rd E n w B a cap l) : Srcs E n w a l [] := by
  obtain ⟨F, ⟨h1, h2, h3, h4⟩, hF⟩ := h
  refine ⟨fun _ => rfl, fun hne => ?_⟩
  obtain ⟨b, o, F', ha, rfl, hr⟩ := h4 hne
  exact ⟨b, o, ha, by have := hr.flat hf; subst this; exact hr⟩
theorem AppL.cap {w : World} {rlo cap : Nat} {a : Option Addr} {l : List α} {F : List Nat} (h : AppL E n e w rlo a cap l F) : l.length ≤ cap ∧ cap ≤ 9223372036854775807 := by
  rcases h with ⟨_, rfl, rfl, _⟩ | ⟨g, cur, ha, h1, h3, h4, h5, _⟩
  · simp
  · unfold maxLen at h5; exact ⟨h4, by omega⟩
theorem AppL.rd {w : World} {rlo cap : Nat} {a : Option Addr} {l : List α} {F : List Nat} (h : AppL E n e w rlo a cap l F) (hlo : rlo ≤ w.heap.size) : Rd E n w w.heap.size a cap l := by
  rcases h with ⟨rfl, rfl, rfl, rfl⟩ | ⟨g, cur, rfl, h1, h3, h4, h5, h6, h7, h8⟩
  · exact Rd.nil _ _
  · have hg : g < w.heap.size := (Array.getElem?_eq_some_iff.1 h3).1
    by_cases hl : l = []
    · subst hl; exact ⟨[], Sl.nil _ _ _ h5, by simp⟩
    · exact ⟨g :: F, ⟨h4, h5, fun h => absurd h hl, fun _ => ⟨g, 0, F, rfl, rfl, h7⟩⟩, fun f hf => by
        rcases List.mem_cons.1 hf with rfl | hf
        · exact hg
        · have := h8 f hf; omega⟩
theorem AppL.some {w : World} {rlo cap : Nat} {a : Option Addr} {l : List α} {F : List Nat} (h : AppL E n e w rlo a cap l F) (hl : l ≠ []) : ∃ g, a = .some ⟨g, 0, none⟩ := by
  rcases h with h | ⟨g, _, h, _⟩
  · exact absurd h.2.2.1 hl
  · exact ⟨g, h⟩
/-- At a step of a region that draws. -/
theorem step_append_run {P : Program} (w : World) {ops : Array Oper} {o : Oper} {a : Act} {K : Act → World → Prop} {Q : Exit → Act → World → Prop} {X : Prop} (hgd : o.guard = none) (s x : Operand) (t tn : TypeId)
    (ho : o.op = .call { callee := .builtin .append, args := #[s, x], argTypes := #[t, tn] }) (vs vx : Value) (hs : a.eval s = vs) (hx : a.eval x = vx)
    (v' : Value) (w' : World) (hr : (Builtin.append_ #[t, tn] o.type #[vs, vx]).run P w = .ok v' w') (h : K (a.put o.dst v') w') : if Region.wanted o (yielded ops a.tmps) = true then Oper.wp P o a w K Q else X := by
  have hw : Region.wanted o (yielded ops a.tmps) = true := by simp [Region.wanted, hgd]
  rw [if_pos hw]
  exact Lib.wp_append_run w s x t tn ho vs vx hs hx v' w' hr h
end
/-- A step of a region that draws, at this very world: for 'with_reducible refine at_world W ?_' as a guard. -/
theorem at_world {P : Program} {ops : Array Oper} {o : Oper} {a : Act} {K : Act → World → Prop} {Q : Exit → Act → World → Prop} {X : Prop} (w : World) (h : if Region.wanted o (yielded ops a.tmps) = true then Oper.wp P o a w K Q else X) : if Region.wanted o (yielded ops a.tmps) = true then Oper.wp P o a w K Q else X := h
theorem EInt.flat : Flat EInt := fun _ _ _ _ _ h => h.1
theorem EByte.flat : Flat EByte := fun _ _ _ _ _ h => h.1
theorem EStep.flat : Flat EStep := fun _ _ _ _ _ h => h.1
end Go.Proofs.Ytmajklgjmghjlaa
