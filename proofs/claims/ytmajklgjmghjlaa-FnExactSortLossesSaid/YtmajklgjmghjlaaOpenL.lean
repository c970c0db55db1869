/- Contracts and lemmas for the proofs of this seat: OpenL. No condition beyond those stated. -/
import Derived.Test.YtmajklgjmghjlaaRows
import Derived.WalkKit
import Derived.ProofKit
import Derived.OpenShut
import Derived.Handy
import Derived.Lib.Hide
import Derived.Lib.SmallJoins
import Derived.Test.YtmajklgjmghjlaaBase
import Derived.Test.YtmajklgjmghjlaaGen
import Derived.Test.YtmajklgjmghjlaaOpen
namespace Go.Proofs.Ytmajklgjmghjlaa
open Go.ChangeShapes Go.WideShapes Go.ChangeAt Go.RowKit Go.Joins
set_option linter.unusedVariables false
set_option maxRecDepth 100000
section
variable {H : Type} {enc : TypeId × Value → H} {P : Program} {w : World} {base : Nat} {spare : Nat → Bool} {held : Bool}
theorem trod_sl {α : Type} {E : World → Nat → Nat → α → List Nat → Prop} {n : Nat} {t e : TypeId} (ht : P.underlying t = some (.slice e)) (hn : P.cellsOf e = n) (hpos : 0 < n)
    (hE : ∀ (fuel : Nat) (cs : List Value) (x : DataW H × List MemPlace), DataW.trod enc P w base spare held fuel e cs = some x → ∃ (y : α) (F : List Nat), cs.length = n ∧
      (∀ b o, (∀ i, i < n → w.cell? ⟨b, o + i, none⟩ = cs[i]?) → E w b o y F) ∧ ∀ f ∈ F, ∃ p ∈ x.2, p.block = f)
    (fuel : Nat) (cs : List Value) (x : DataW H × List MemPlace) (h : DataW.trod enc P w base spare held fuel t cs = some x) :
    ∃ (l : List α) (a : Option Addr) (cap : Nat) (F : List Nat), cs = [.slice a l.length cap] ∧ Sl E n w a cap l F ∧ ∀ f ∈ F, ∃ p ∈ x.2, p.block = f := by
  rcases DataW.trod_slice ht h with ⟨e4, -⟩ | ⟨a, len, cap, elems, rest, m', hn', e4, hy, -, hlc, hcm, hel, hget, -, -⟩
  · exact ⟨[], none, 0, [], e4, Sl.nil _ _ _ (by simp [maxLen]), by simp⟩
  · subst e4
    have key : ∀ j, j ≤ len → ∃ (l : List α) (F : List Nat), l.length = j ∧ Row E n w a.block a.off l F ∧ (∀ f ∈ F, ∃ p ∈ x.2, p.block = f) ∧ (0 < j → a = ⟨a.block, a.off, none⟩) := by
      intro j
      induction j with
      | zero => intro _; exact ⟨[], [], rfl, rfl, by simp, fun h => absurd h (by omega)⟩
      | succ j ihj =>
        intro hj
        obtain ⟨l, F, hll, hr, hF, ha⟩ := ihj (by omega)
        have hgj := hget j (by omega)
        have hsome : elems[j]? = some (elems[j]'(by omega)) := List.getElem?_eq_getElem (by omega)
        rw [hsome, hn] at hgj
        obtain ⟨cs', hc, ht'⟩ := Option.bind_eq_some_iff.1 hgj
        obtain ⟨y, F', hcl, hEy, hF'⟩ := hE m' cs' _ ht'
        obtain ⟨-, -, hcell⟩ := World.cells?_some hc
        have h0 := hcell 0 hpos
        have hspot : a = ⟨a.block, a.off, none⟩ := by
          by_cases hj0 : j = 0
          · subst hj0
            simp only [Nat.zero_mul, Addr.add, if_true] at h0
            rw [List.getElem?_eq_getElem (by omega)] at h0
            exact spot_none h0
          · exact ha (by omega)
        rw [hspot] at hcell
        simp only [add_none] at hcell
        refine ⟨l ++ [y], F ++ F', by simp [hll], Row.snoc hr ?_, ?_, fun _ => hspot⟩
        · rw [hll]
          exact hEy _ _ fun i hi => hcell i hi
        · intro f hf
          rcases List.mem_append.1 hf with hf | hf
          · exact hF f hf
          · obtain ⟨p, hp, hb⟩ := hF' f hf
            refine ⟨p, ?_, hb⟩
            rw [hy]
            simp only [List.mem_append, List.mem_flatMap]
            exact Or.inr ⟨_, Or.inl (List.getElem_mem (by omega)), hp⟩
    obtain ⟨l, F, hll, hr, hF, ha⟩ := key len (Nat.le_refl _)
    by_cases hle : l = []
    · subst hle
      simp only [List.length_nil] at hll
      subst hll
      exact ⟨[], some a, cap, [], rfl, Sl.nil _ _ _ hcm, by simp⟩
    · have hpos' : 0 < len := by
        rcases Nat.eq_zero_or_pos len with h0 | h0
        · exact absurd (List.eq_nil_of_length_eq_zero (by omega)) hle
        · exact h0
      refine ⟨l, some a, cap, a.block :: F, by rw [hll], ⟨by omega, hcm, fun h => absurd h hle, fun _ => ⟨a.block, a.off, F, by rw [← ha hpos'], rfl, hr⟩⟩, ?_⟩
      intro f hf
      rcases List.mem_cons.1 hf with rfl | hf
      · refine ⟨.cell a.block (a.off + 0), ?_, rfl⟩
        rw [hy, hn]
        simp only [List.mem_append]
        refine Or.inl ?_
        simp only [MemPlace.row, List.mem_map, List.mem_range]
        exact ⟨0, by rw [hel]; have := Nat.mul_le_mul (show 1 ≤ len + rest.length from by omega) (show 1 ≤ n from hpos); omega, rfl⟩
      · exact hF f hf
theorem trod_two {t : TypeId} {f0 f1 : Field} (ht : P.underlying t = some (.struct #[f0, f1])) (o0 : f0.offset = 0) (o1 : f1.offset = 1) (k0 : P.cellsOf f0.type = 1) (k1 : P.cellsOf f1.type = 1) (kt : P.cellsOf t = 2)
    {fuel : Nat} {cs : List Value} {x : DataW H × List MemPlace} (h : DataW.trod enc P w base spare held fuel t cs = some x) :
    ∃ c0 c1 y0 y1 n, cs = [c0, c1] ∧ x.2 = y0.2 ++ y1.2 ∧ DataW.trod enc P w base spare held n f0.type [c0] = some y0 ∧ DataW.trod enc P w base spare held n f1.type [c1] = some y1 := by
  obtain ⟨xs, n, rfl, rfl, hl, hxl, hg⟩ := DataW.trod_struct ht h
  rw [kt] at hl
  match cs, hl with
  | [c0, c1], _ =>
    match xs, hxl with
    | [y0, y1], _ =>
      refine ⟨c0, c1, y0, y1, n, rfl, by simp, ?_, ?_⟩
      · simpa [o0, k0] using hg 0 f0 rfl
      · simpa [o1, k1] using hg 1 f1 rfl
theorem trod_step {t : TypeId} {f0 f1 : Field} (ht : P.underlying t = some (.struct #[f0, f1])) (o0 : f0.offset = 0) (o1 : f1.offset = 1) (k0 : P.cellsOf f0.type = 1) (k1 : P.cellsOf f1.type = 1) (kt : P.cellsOf t = 2)
    (t0 : P.underlying f0.type = some (.int .i64)) (t1 : P.underlying f1.type = some .bool)
    (fuel : Nat) (cs : List Value) (x : DataW H × List MemPlace) (h : DataW.trod enc P w base spare held fuel t cs = some x) : ∃ (y : St) (F : List Nat), cs.length = 2 ∧
      (∀ b o, (∀ i, i < 2 → w.cell? ⟨b, o + i, none⟩ = cs[i]?) → EStep w b o y F) ∧ ∀ f ∈ F, ∃ p ∈ x.2, p.block = f := by
  obtain ⟨c0, c1, y0, y1, n, rfl, hx, g0, g1⟩ := trod_two ht o0 o1 k0 k1 kt h
  obtain ⟨k, e0, -, w0⟩ := DataW.trod_int t0 g0
  obtain ⟨b, e1, -⟩ := DataW.trod_bool t1 g1
  simp only [List.cons.injEq, and_true] at e0 e1
  subst e0 e1
  refine ⟨(k, b), [], rfl, fun bb o hc => ⟨rfl, ?_, ?_, I64.of_wf w0⟩, by simp⟩
  · simpa using hc 0 (by omega)
  · simpa using hc 1 (by omega)
theorem trod_loss {t ts : TypeId} {f0 f1 g0 g1 : Field} (ht : P.underlying t = some (.struct #[f0, f1])) (o0 : f0.offset = 0) (o1 : f1.offset = 1) (k0 : P.cellsOf f0.type = 1) (k1 : P.cellsOf f1.type = 1) (kt : P.cellsOf t = 2)
    (t0 : P.underlying f0.type = some (.int .i64)) (t1 : P.underlying f1.type = some (.slice ts))
    (hs : P.underlying ts = some (.struct #[g0, g1])) (q0 : g0.offset = 0) (q1 : g1.offset = 1) (j0 : P.cellsOf g0.type = 1) (j1 : P.cellsOf g1.type = 1) (js : P.cellsOf ts = 2)
    (u0 : P.underlying g0.type = some (.int .i64)) (u1 : P.underlying g1.type = some .bool)
    (fuel : Nat) (cs : List Value) (x : DataW H × List MemPlace) (h : DataW.trod enc P w base spare held fuel t cs = some x) : ∃ (y : Lo) (F : List Nat), cs.length = 2 ∧
      (∀ b o, (∀ i, i < 2 → w.cell? ⟨b, o + i, none⟩ = cs[i]?) → ELoss w b o y F) ∧ (∀ f ∈ F, ∃ p ∈ x.2, p.block = f) ∧
      (∃ a cap, cs = [.int .i64 y.1, .slice a y.2.length cap] ∧ I64 y.1 ∧ Sl EStep 2 w a cap y.2 F) := by
  obtain ⟨c0, c1, y0, y1, n, rfl, hx, r0, r1⟩ := trod_two ht o0 o1 k0 k1 kt h
  obtain ⟨k, e0, -, w0⟩ := DataW.trod_int t0 r0
  obtain ⟨l, a, cap, F, e1, hsl, hF⟩ := trod_sl t1 js (by omega) (fun fuel cs x h => trod_step hs q0 q1 j0 j1 js u0 u1 fuel cs x h) n _ _ r1
  simp only [List.cons.injEq, and_true] at e0 e1
  subst e0 e1
  refine ⟨(k, l), F, rfl, fun bb o hc => ⟨?_, I64.of_wf w0, a, cap, ?_, hsl⟩, ?_, a, cap, rfl, I64.of_wf w0, hsl⟩
  · simpa using hc 0 (by omega)
  · simpa using hc 1 (by omega)
  · intro f hf
    obtain ⟨p, hp, hb⟩ := hF f hf
    exact ⟨p, by rw [hx]; simp [hp], hb⟩
end
theorem open_lawLoss {H : Type} {enc : TypeId × Value → H} {w : World} {r : Reach} {b0 : Nat} {v : Value} {d : DataW H} {p : List MemPlace} (hok : Value.okWide Try.prog w r b0 33 v) (h : DataW.Trod enc Try.prog w 0 (fun _ => true) true 33 v d p) :
    ∃ (t : Lo) (a : Option Addr) (cap : Nat), v = .agg #[.int .i64 t.1, .slice a t.2.length cap] ∧ I64 t.1 ∧ ∀ B, (∀ x ∈ p, x.block < B) → Rd EStep 2 w B a cap t.2 := by
  obtain ⟨cs, rfl, hsz⟩ := okWide_struct Try.underlying33 hok
  obtain ⟨fuel, hf⟩ := h
  obtain ⟨y, F, -, -, hF, a, cap, hcs, hi, hsl⟩ := trod_loss Try.underlying33 rfl rfl (by kernel_rfl) (by kernel_rfl) (by kernel_rfl) Try.underlying3 Try.underlying31 Try.underlying54 rfl rfl (by kernel_rfl) (by kernel_rfl) (by kernel_rfl) Try.underlying3 Try.underlying4 fuel _ _ hf
  refine ⟨y, a, cap, ?_, hi, fun B hB => ⟨F, hsl, fun f hf => ?_⟩⟩
  · simp only [Value.cells] at hcs
    rw [show cs = cs.toList.toArray from by simp, hcs]
  · obtain ⟨q, hq, rfl⟩ := hF f hf
    exact hB q hq
theorem open_lawLosses {H : Type} {enc : TypeId × Value → H} {w : World} {r : Reach} {b0 : Nat} {v : Value} {d : DataW H} {p : List MemPlace} (hok : Value.okWide Try.prog w r b0 22 v) (h : DataW.Trod enc Try.prog w 0 (fun _ => true) true 22 v d p) :
    ∃ (t : List Lo) (a : Option Addr) (cap : Nat), v = .slice a t.length cap ∧ True ∧ ∀ B, (∀ x ∈ p, x.block < B) → Rd ELoss 2 w B a cap t := by
  obtain ⟨a0, len, cap0, rfl⟩ := okWide_slice Try.underlying22 hok
  obtain ⟨fuel, hf⟩ := h
  obtain ⟨l, a, cap, F, hcs, hsl, hF⟩ := trod_sl (E := ELoss) Try.underlying22 (n := 2) (by kernel_rfl) (by omega) (fun fuel cs x h => by
    obtain ⟨y, F, h1, h2, h3, -⟩ := trod_loss Try.underlying33 rfl rfl (by kernel_rfl) (by kernel_rfl) (by kernel_rfl) Try.underlying3 Try.underlying31 Try.underlying54 rfl rfl (by kernel_rfl) (by kernel_rfl) (by kernel_rfl) Try.underlying3 Try.underlying4 fuel _ _ h
    exact ⟨y, F, h1, h2, h3⟩) fuel _ _ hf
  refine ⟨l, a, cap, ?_, trivial, fun B hB => ⟨F, hsl, fun f hf => ?_⟩⟩
  · simpa [Value.cells] using hcs
  · obtain ⟨q, hq, rfl⟩ := hF f hf
    exact hB q hq
theorem open_lawSteps {H : Type} {enc : TypeId × Value → H} {w : World} {r : Reach} {b0 : Nat} {v : Value} {d : DataW H} {p : List MemPlace} (hok : Value.okWide Try.prog w r b0 31 v) (h : DataW.Trod enc Try.prog w 0 (fun _ => true) true 31 v d p) :
    ∃ (t : List St) (a : Option Addr) (cap : Nat), v = .slice a t.length cap ∧ True ∧ ∀ B, (∀ x ∈ p, x.block < B) → Rd EStep 2 w B a cap t := by
  obtain ⟨a0, len, cap0, rfl⟩ := okWide_slice Try.underlying31 hok
  obtain ⟨fuel, hf⟩ := h
  obtain ⟨l, a, cap, F, hcs, hsl, hF⟩ := trod_sl (E := EStep) Try.underlying31 (n := 2) (by kernel_rfl) (by omega) (fun fuel cs x h => trod_step Try.underlying54 rfl rfl (by kernel_rfl) (by kernel_rfl) (by kernel_rfl) Try.underlying3 Try.underlying4 fuel _ _ h) fuel _ _ hf
  refine ⟨l, a, cap, ?_, trivial, fun B hB => ⟨F, hsl, fun f hf => ?_⟩⟩
  · simpa [Value.cells] using hcs
  · obtain ⟨q, hq, rfl⟩ := hF f hf
    exact hB q hq
end Go.Proofs.Ytmajklgjmghjlaa
