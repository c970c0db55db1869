/- Contracts and lemmas for the proofs of this seat: Open. No condition beyond those stated. -/
import Derived.Test.YtmajklgjmghjlaaRows
import Derived.WalkKit
import Derived.ProofKit
import Derived.OpenShut
import Derived.Handy
import Derived.Lib.Hide
import Derived.Lib.SmallJoins
import Derived.Test.YtmajklgjmghjlaaBase
namespace Go.Proofs.Ytmajklgjmghjlaa
open Go.ChangeShapes Go.WideShapes Go.ChangeAt Go.RowKit Go.Joins
set_option linter.unusedVariables false
set_option maxRecDepth 100000
/-! What the form reads as data, as the predicates of this seat. -/
section
variable {H : Type} {enc : TypeId × Value → H} {P : Program} {w : World} {base : Nat} {spare : Nat → Bool} {held : Bool}
theorem add_none (b o n : Nat) : (⟨b, o, none⟩ : Addr).add n = ⟨b, o + n, none⟩ := by
  unfold Addr.add
  split
  · rename_i h; subst h; rfl
  · rfl
theorem spot_none {a : Addr} {v : Value} (h : w.cell? a = some v) : a = ⟨a.block, a.off, none⟩ := by
  obtain ⟨b, o, s⟩ := a
  cases s with
  | none => rfl
  | some k =>
    unfold World.cell? at h
    split at h <;> simp at h
theorem fieldsAt5 {fs : Array Field} {cs : List Value} {xs : List (DataW H × List MemPlace)} {n : Nat} (hl : cs.length = 5) (hxl : xs.length = fs.size)
    {f0 f1 f2 f3 f4 : Field} (hfs : fs = #[f0, f1, f2, f3, f4]) (o0 : f0.offset = 0) (o1 : f1.offset = 1) (o2 : f2.offset = 2) (o3 : f3.offset = 3) (o4 : f4.offset = 4)
    (k0 : P.cellsOf f0.type = 1) (k1 : P.cellsOf f1.type = 1) (k2 : P.cellsOf f2.type = 1) (k3 : P.cellsOf f3.type = 1) (k4 : P.cellsOf f4.type = 1)
    (hg : ∀ (i : Nat) (f : Field), fs[i]? = some f → DataW.trod enc P w base spare held n f.type ((cs.drop f.offset).take (P.cellsOf f.type)) = xs[i]?) :
    ∃ c0 c1 c2 c3 c4 y0 y1 y2 y3 y4, cs = [c0, c1, c2, c3, c4] ∧ xs = [y0, y1, y2, y3, y4] ∧ DataW.trod enc P w base spare held n f0.type [c0] = some y0 ∧ DataW.trod enc P w base spare held n f1.type [c1] = some y1 ∧
      DataW.trod enc P w base spare held n f2.type [c2] = some y2 ∧ DataW.trod enc P w base spare held n f3.type [c3] = some y3 ∧ DataW.trod enc P w base spare held n f4.type [c4] = some y4 := by
  subst hfs
  match cs, hl with
  | [c0, c1, c2, c3, c4], _ =>
    match xs, hxl with
    | [y0, y1, y2, y3, y4], _ =>
      refine ⟨c0, c1, c2, c3, c4, y0, y1, y2, y3, y4, rfl, rfl, ?_, ?_, ?_, ?_, ?_⟩
      · simpa [o0, k0] using hg 0 f0 rfl
      · simpa [o1, k1] using hg 1 f1 rfl
      · simpa [o2, k2] using hg 2 f2 rfl
      · simpa [o3, k3] using hg 3 f3 rfl
      · simpa [o4, k4] using hg 4 f4 rfl
theorem trod_val {tv : TypeId} {f0 f1 f2 f3 f4 : Field} (hv : P.underlying tv = some (.struct #[f0, f1, f2, f3, f4])) (o0 : f0.offset = 0) (o1 : f1.offset = 1) (o2 : f2.offset = 2) (o3 : f3.offset = 3) (o4 : f4.offset = 4)
    (t0 : P.underlying f0.type = some (.int .i64)) (t1 : P.underlying f1.type = some (.int .i64)) (t2 : P.underlying f2.type = some (.int .i64)) (t3 : P.underlying f3.type = some .string) (t4 : P.underlying f4.type = some (.slice tv))
    (k0 : P.cellsOf f0.type = 1) (k1 : P.cellsOf f1.type = 1) (k2 : P.cellsOf f2.type = 1) (k3 : P.cellsOf f3.type = 1) (k4 : P.cellsOf f4.type = 1) (kv : P.cellsOf tv = 5) :
    ∀ (fuel : Nat) (cs : List Value) (x : DataW H × List MemPlace), DataW.trod enc P w base spare held fuel tv cs = some x →
      ∃ (t : T) (a : Option Addr) (cap : Nat) (F : List Nat), cs = [.int .i64 t.k, .int .i64 t.n, .int .i64 t.x, .string t.s, .slice a t.l.length cap] ∧ TL w a cap t.l F ∧ Wf t ∧ ∀ f ∈ F, ∃ p ∈ x.2, p.block = f := by
  intro fuel
  induction fuel using Nat.strongRecOn with
  | ind fuel ih =>
    intro cs x h
    obtain ⟨xs, n, rfl, rfl, hl, hxl, hg⟩ := DataW.trod_struct hv h
    rw [kv] at hl
    obtain ⟨c0, c1, c2, c3, c4, y0, y1, y2, y3, y4, rfl, rfl, g0, g1, g2, g3, g4⟩ := fieldsAt5 hl hxl rfl o0 o1 o2 o3 o4 k0 k1 k2 k3 k4 hg
    obtain ⟨k, e0, -, w0⟩ := DataW.trod_int t0 g0
    obtain ⟨m, e1, -, w1⟩ := DataW.trod_int t1 g1
    obtain ⟨z, e2, -, w2⟩ := DataW.trod_int t2 g2
    obtain ⟨s, e3, -, w3⟩ := DataW.trod_string t3 g3
    simp only [List.cons.injEq, and_true] at e0 e1 e2 e3
    subst e0 e1 e2 e3
    rcases DataW.trod_slice t4 g4 with ⟨e4, -⟩ | ⟨a, len, cap, elems, rest, m', hn, e4, hy, -, hlc, hcm, hel, hget, -, -⟩
    · simp only [List.cons.injEq, and_true] at e4
      subst e4
      exact ⟨.mk k m z s [], none, 0, [], rfl, ⟨by simp [T.l], by simp [maxLen], fun _ => rfl, fun h => absurd rfl h⟩, ⟨I64.of_wf w0, I64.of_wf w1, I64.of_wf w2, w3⟩, by simp⟩
    · simp only [List.cons.injEq, and_true] at e4
      subst e4
      have key : ∀ j, j ≤ len → ∃ (l : List T) (F : List Nat), l.length = j ∧ TR w a.block a.off l F ∧ (∀ f ∈ F, ∃ p ∈ y4.2, p.block = f) ∧ (0 < j → a = ⟨a.block, a.off, none⟩) := by
        intro j
        induction j with
        | zero => intro _; exact ⟨[], [], rfl, by rw [TR], by simp, fun h => absurd h (by omega)⟩
        | succ j ihj =>
          intro hj
          obtain ⟨l, F, hll, hr, hF, ha⟩ := ihj (by omega)
          have hgj := hget j (by omega)
          have hsome : elems[j]? = some (elems[j]'(by omega)) := List.getElem?_eq_getElem (by omega)
          rw [hsome, kv] at hgj
          obtain ⟨cs', hc, ht⟩ := Option.bind_eq_some_iff.1 hgj
          obtain ⟨t', a', cap', F', rfl, hTL, hwf, hF'⟩ := ih m' (by omega) cs' _ ht
          obtain ⟨-, -, hcell⟩ := World.cells?_some hc
          have h0 := hcell 0 (by omega)
          have hadd0 : (a.add (j * 5)).add 0 = a.add (j * 5) := by simp [Addr.add]
          have hspot : a = ⟨a.block, a.off, none⟩ := by
            by_cases hj0 : j = 0
            · subst hj0
              rw [hadd0] at h0
              simp only [Nat.zero_mul, Addr.add, if_true] at h0
              exact spot_none h0
            · exact ha (by omega)
          rw [hspot] at hcell
          simp only [add_none] at hcell
          refine ⟨l ++ [t'], F ++ F', by simp [hll], TR.snoc hr ?_, ?_, fun _ => hspot⟩
          · rw [← T.eta t', TV.iff, hll]
            have e0 := hcell 0 (by omega); have e1 := hcell 1 (by omega); have e2 := hcell 2 (by omega); have e3 := hcell 3 (by omega); have e4 := hcell 4 (by omega)
            simp only [Nat.add_zero] at e0
            exact ⟨e0, e1, e2, e3, hwf.1, hwf.2.1, hwf.2.2.1, hwf.2.2.2, a', cap', e4, hTL⟩
          · intro f hf
            rcases List.mem_append.1 hf with hf | hf
            · exact hF f hf
            · obtain ⟨p, hp, hb⟩ := hF' f hf
              refine ⟨p, ?_, hb⟩
              rw [hy]
              simp only [List.mem_append, List.mem_flatMap]
              exact Or.inr ⟨_, Or.inl (List.getElem_mem (by omega)), hp⟩
      obtain ⟨l, F, hll, hr, hF, ha⟩ := key len (Nat.le_refl _)
      have hF4 : ∀ f, (∃ p ∈ y4.2, p.block = f) → ∃ p ∈ [y0, y1, y2, y3, y4].flatMap (·.2), p.block = f := by
        rintro f ⟨p, hp, hb⟩
        exact ⟨p, by simp [hp], hb⟩
      by_cases hle : l = []
      · subst hle
        simp only [List.length_nil] at hll
        subst hll
        exact ⟨.mk k m z s [], some a, cap, [], rfl, ⟨by simp [T.l], hcm, fun _ => rfl, fun h => absurd rfl h⟩, ⟨I64.of_wf w0, I64.of_wf w1, I64.of_wf w2, w3⟩, by simp⟩
      · have hpos : 0 < len := by
          rcases Nat.eq_zero_or_pos len with h0 | h0
          · exact absurd (List.eq_nil_of_length_eq_zero (by omega)) hle
          · exact h0
        refine ⟨.mk k m z s l, some a, cap, a.block :: F, by simp [T.k, T.n, T.x, T.s, T.l, hll], ⟨by simp [T.l]; omega, hcm, fun h => absurd h hle, fun _ => ⟨a.block, a.off, F, by rw [← ha hpos], rfl, hr⟩⟩, ⟨I64.of_wf w0, I64.of_wf w1, I64.of_wf w2, w3⟩, ?_⟩
        intro f hf
        apply hF4
        rcases List.mem_cons.1 hf with rfl | hf
        · refine ⟨.cell a.block (a.off + 0), ?_, rfl⟩
          rw [hy, kv]
          simp only [List.mem_append]
          refine Or.inl ?_
          simp only [MemPlace.row, List.mem_map, List.mem_range]
          exact ⟨0, by omega, rfl⟩
        · exact hF f hf
end
end Go.Proofs.Ytmajklgjmghjlaa
