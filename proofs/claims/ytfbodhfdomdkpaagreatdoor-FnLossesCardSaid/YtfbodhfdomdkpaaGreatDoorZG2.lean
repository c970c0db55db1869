/- Texts of this proof, merged: OpenL, Kit, BytesF, Mark, App, MarkV, LawVal. No condition beyond what each theorem states. -/
import Derived.Test.YtfbodhfdomdkpaaGreatDoorRows
import Derived.WalkKit
import Derived.ProofKit
import Derived.OpenShut
import Derived.Handy
import Derived.Lib.Hide
import Derived.Lib.SmallJoins
import Derived.Test.YtfbodhfdomdkpaaGreatDoorZG1
import Derived.Deep.RegionHeld3
import Derived.Deep.QuietTactic
import Derived.BigQuiet
import Derived.Deep.AppendLies
import Derived.Laws.BytesArg
set_option linter.unusedSimpArgs false
set_option linter.unnecessarySimpa false
namespace Go.Proofs.YtfbodhfdomdkpaaGreatDoor
open Go.ChangeShapes Go.WideShapes Go.ChangeAt Go.RowKit Go.Joins
set_option linter.unusedVariables false
set_option maxRecDepth 100000
section
variable {H : Type} {enc : TypeId × Value → H} {P : Program} {w : World} {base : Nat} {spare : Nat → Bool} {held : Bool}
theorem trod_sl {α : Type} {E : World → Nat → Nat → α → List Nat → Prop} {n : Nat} {t e : TypeId} (ht : P.underlying t = some (.slice e)) (hn : P.cellsOf e = n) (hpos : 0 < n)
    (hE : ∀ (fuel : Nat) (cs : List Value) (x : DataW H × List MemPlace), DataW.trod enc P w base spare held fuel e cs = some x → ∃ (y : α) (F : List Nat), cs.length = n ∧
      (∀ b o, (∀ i, i < n → w.cell? ⟨b, o + i, none⟩ = cs[i]?) → E w b o y F) ∧ ∀ f ∈ F, ∃ p ∈ x.2, p.block = f)
    (fuel : Nat) (cs : List Value) (x : DataW H × List MemPlace) (h : DataW.trod enc P w base spare held fuel t cs = some x) :
    ∃ (l : List α) (a : Option Addr) (cap : Nat) (F : List Nat), cs = [.slice a l.length cap] ∧ Sl E n w a cap l F ∧ ∀ f ∈ F, ∃ p ∈ x.2, p.block = f := by
  rcases DataW.trod_slice ht h with ⟨e4, -⟩ | ⟨a, len, cap, elems, rest, m', hn', e4, hy, -, hlc, hcm, hel, hget, -, -⟩
  · exact ⟨[], none, 0, [], e4, Sl.nil _ _ _ (by simp [maxLen]), by simp⟩
  · subst e4
    have key : ∀ j, j ≤ len → ∃ (l : List α) (F : List Nat), l.length = j ∧ Row E n w a.block a.off l F ∧ (∀ f ∈ F, ∃ p ∈ x.2, p.block = f) ∧ (0 < j → a = ⟨a.block, a.off, none⟩) := by
      intro j
      induction j with
      | zero => intro _; exact ⟨[], [], rfl, rfl, by simp, fun h => absurd h (by omega)⟩
      | succ j ihj =>
        intro hj
        obtain ⟨l, F, hll, hr, hF, ha⟩ := ihj (by omega)
        have hgj := hget j (by omega)
        have hsome : elems[j]? = some (elems[j]'(by omega)) := List.getElem?_eq_getElem (by omega)
        rw [hsome, hn] at hgj
        obtain ⟨cs', hc, ht'⟩ := Option.bind_eq_some_iff.1 hgj
        obtain ⟨y, F', hcl, hEy, hF'⟩ := hE m' cs' _ ht'
        obtain ⟨-, -, hcell⟩ := World.cells?_some hc
        have h0 := hcell 0 hpos
        have hspot : a = ⟨a.block, a.off, none⟩ := by
          by_cases hj0 : j = 0
          · subst hj0
            simp only [Nat.zero_mul, Addr.add, if_true] at h0
            rw [List.getElem?_eq_getElem (by omega)] at h0
            exact spot_none h0
          · exact ha (by omega)
        rw [hspot] at hcell
        simp only [add_none] at hcell
        refine ⟨l ++ [y], F ++ F', by simp [hll], Row.snoc hr ?_, ?_, fun _ => hspot⟩
        · rw [hll]
          exact hEy _ _ fun i hi => hcell i hi
        · intro f hf
          rcases List.mem_append.1 hf with hf | hf
          · exact hF f hf
          · obtain ⟨p, hp, hb⟩ := hF' f hf
            refine ⟨p, ?_, hb⟩
            rw [hy]
            simp only [List.mem_append, List.mem_flatMap]
            exact Or.inr ⟨_, Or.inl (List.getElem_mem (by omega)), hp⟩
    obtain ⟨l, F, hll, hr, hF, ha⟩ := key len (Nat.le_refl _)
    by_cases hle : l = []
    · subst hle
      simp only [List.length_nil] at hll
      subst hll
      exact ⟨[], some a, cap, [], rfl, Sl.nil _ _ _ hcm, by simp⟩
    · have hpos' : 0 < len := by
        rcases Nat.eq_zero_or_pos len with h0 | h0
        · exact absurd (List.eq_nil_of_length_eq_zero (by omega)) hle
        · exact h0
      refine ⟨l, some a, cap, a.block :: F, by rw [hll], ⟨by omega, hcm, fun h => absurd h hle, fun _ => ⟨a.block, a.off, F, by rw [← ha hpos'], rfl, hr⟩⟩, ?_⟩
      intro f hf
      rcases List.mem_cons.1 hf with rfl | hf
      · refine ⟨.cell a.block (a.off + 0), ?_, rfl⟩
        rw [hy, hn]
        simp only [List.mem_append]
        refine Or.inl ?_
        simp only [MemPlace.row, List.mem_map, List.mem_range]
        exact ⟨0, by rw [hel]; have := Nat.mul_le_mul (show 1 ≤ len + rest.length from by omega) (show 1 ≤ n from hpos); omega, rfl⟩
      · exact hF f hf
theorem trod_two {t : TypeId} {f0 f1 : Field} (ht : P.underlying t = some (.struct #[f0, f1])) (o0 : f0.offset = 0) (o1 : f1.offset = 1) (k0 : P.cellsOf f0.type = 1) (k1 : P.cellsOf f1.type = 1) (kt : P.cellsOf t = 2)
    {fuel : Nat} {cs : List Value} {x : DataW H × List MemPlace} (h : DataW.trod enc P w base spare held fuel t cs = some x) :
    ∃ c0 c1 y0 y1 n, cs = [c0, c1] ∧ x.2 = y0.2 ++ y1.2 ∧ DataW.trod enc P w base spare held n f0.type [c0] = some y0 ∧ DataW.trod enc P w base spare held n f1.type [c1] = some y1 := by
  obtain ⟨xs, n, rfl, rfl, hl, hxl, hg⟩ := DataW.trod_struct ht h
  rw [kt] at hl
  match cs, hl with
  | [c0, c1], _ =>
    match xs, hxl with
    | [y0, y1], _ =>
      refine ⟨c0, c1, y0, y1, n, rfl, by simp, ?_, ?_⟩
      · simpa [o0, k0] using hg 0 f0 rfl
      · simpa [o1, k1] using hg 1 f1 rfl
theorem trod_step {t : TypeId} {f0 f1 : Field} (ht : P.underlying t = some (.struct #[f0, f1])) (o0 : f0.offset = 0) (o1 : f1.offset = 1) (k0 : P.cellsOf f0.type = 1) (k1 : P.cellsOf f1.type = 1) (kt : P.cellsOf t = 2)
    (t0 : P.underlying f0.type = some (.int .i64)) (t1 : P.underlying f1.type = some .bool)
    (fuel : Nat) (cs : List Value) (x : DataW H × List MemPlace) (h : DataW.trod enc P w base spare held fuel t cs = some x) : ∃ (y : St) (F : List Nat), cs.length = 2 ∧
      (∀ b o, (∀ i, i < 2 → w.cell? ⟨b, o + i, none⟩ = cs[i]?) → EStep w b o y F) ∧ ∀ f ∈ F, ∃ p ∈ x.2, p.block = f := by
  obtain ⟨c0, c1, y0, y1, n, rfl, hx, g0, g1⟩ := trod_two ht o0 o1 k0 k1 kt h
  obtain ⟨k, e0, -, w0⟩ := DataW.trod_int t0 g0
  obtain ⟨b, e1, -⟩ := DataW.trod_bool t1 g1
  simp only [List.cons.injEq, and_true] at e0 e1
  subst e0 e1
  refine ⟨(k, b), [], rfl, fun bb o hc => ⟨rfl, ?_, ?_, I64.of_wf w0⟩, by simp⟩
  · (have h := hc 0 (by omega); first | exact h | (simp only [Nat.add_zero] at h; exact h) | (simp at h; exact h) | (simp; exact h))
  · (have h := hc 1 (by omega); first | exact h | (simp only [Nat.add_zero] at h; exact h) | (simp at h; exact h) | (simp; exact h))
theorem trod_loss {t ts : TypeId} {f0 f1 g0 g1 : Field} (ht : P.underlying t = some (.struct #[f0, f1])) (o0 : f0.offset = 0) (o1 : f1.offset = 1) (k0 : P.cellsOf f0.type = 1) (k1 : P.cellsOf f1.type = 1) (kt : P.cellsOf t = 2)
    (t0 : P.underlying f0.type = some (.int .i64)) (t1 : P.underlying f1.type = some (.slice ts))
    (hs : P.underlying ts = some (.struct #[g0, g1])) (q0 : g0.offset = 0) (q1 : g1.offset = 1) (j0 : P.cellsOf g0.type = 1) (j1 : P.cellsOf g1.type = 1) (js : P.cellsOf ts = 2)
    (u0 : P.underlying g0.type = some (.int .i64)) (u1 : P.underlying g1.type = some .bool)
    (fuel : Nat) (cs : List Value) (x : DataW H × List MemPlace) (h : DataW.trod enc P w base spare held fuel t cs = some x) : ∃ (y : Lo) (F : List Nat), cs.length = 2 ∧
      (∀ b o, (∀ i, i < 2 → w.cell? ⟨b, o + i, none⟩ = cs[i]?) → ELoss w b o y F) ∧ (∀ f ∈ F, ∃ p ∈ x.2, p.block = f) ∧
      (∃ a cap, cs = [.int .i64 y.1, .slice a y.2.length cap] ∧ I64 y.1 ∧ Sl EStep 2 w a cap y.2 F) := by
  obtain ⟨c0, c1, y0, y1, n, rfl, hx, r0, r1⟩ := trod_two ht o0 o1 k0 k1 kt h
  obtain ⟨k, e0, -, w0⟩ := DataW.trod_int t0 r0
  obtain ⟨l, a, cap, F, e1, hsl, hF⟩ := trod_sl t1 js (by omega) (fun fuel cs x h => trod_step hs q0 q1 j0 j1 js u0 u1 fuel cs x h) n _ _ r1
  simp only [List.cons.injEq, and_true] at e0 e1
  subst e0 e1
  refine ⟨(k, l), F, rfl, fun bb o hc => ⟨?_, I64.of_wf w0, a, cap, ?_, hsl⟩, ?_, a, cap, rfl, I64.of_wf w0, hsl⟩
  · (have h := hc 0 (by omega); first | exact h | (simp only [Nat.add_zero] at h; exact h) | (simp at h; exact h) | (simp; exact h))
  · (have h := hc 1 (by omega); first | exact h | (simp only [Nat.add_zero] at h; exact h) | (simp at h; exact h) | (simp; exact h))
  · intro f hf
    obtain ⟨p, hp, hb⟩ := hF f hf
    exact ⟨p, by rw [hx]; simp [hp], hb⟩
end
end Go.Proofs.YtfbodhfdomdkpaaGreatDoor
namespace Go.Proofs.YtfbodhfdomdkpaaGreatDoor
open Go.ChangeShapes Go.WideShapes Go.ChangeAt Go.RowKit Go.Joins
set_option linter.unusedVariables false
set_option maxRecDepth 100000
abbrev cL (x : Lo) (a : Option Addr) (cap : Nat) : Array Value := #[Value.int IntKind.i64 x.1, Value.slice a x.2.length cap]
theorem R.fwd {w w' : World} {a : Option Addr} {cap : Nat} {l : List T} (h : R w w.heap.size a cap l) (hb : Below w.heap.size w w') : R w' w'.heap.size a cap l := (h.below hb (Nat.le_refl _)).more hb.size
theorem Rd.fwd {α : Type} {E : World → Nat → Nat → α → List Nat → Prop} {n : Nat} (hE : Loc E n) {w w' : World} {a : Option Addr} {cap : Nat} {l : List α} (h : Rd E n w w.heap.size a cap l) (hb : Below w.heap.size w w') : Rd E n w' w'.heap.size a cap l := (h.below hE hb (Nat.le_refl _)).more hb.size
/-- Outside the blocks from lo up to hi nothing has changed. -/
def Beside (lo hi : Nat) (w w' : World) : Prop := Below lo w w' ∧ ∀ f, hi ≤ f → f < w.heap.size → w'.heap[f]? = w.heap[f]?
theorem Beside.refl (lo hi : Nat) (w : World) : Beside lo hi w w := ⟨Below.refl _ _, fun _ _ _ => rfl⟩
theorem Beside.trans {lo hi : Nat} {w w1 w2 : World} (h : Beside lo hi w w1) (h2 : Beside lo hi w1 w2) : Beside lo hi w w2 :=
  ⟨h.1.trans h2.1, fun f hf hl => (h2.2 f hf (Nat.lt_of_lt_of_le hl h.1.size)).trans (h.2 f hf hl)⟩
theorem Beside.more {lo hi lo' hi' : Nat} {w w' : World} (h : Beside lo hi w w') (h1 : lo' ≤ lo) (h2 : hi ≤ hi') : Beside lo' hi' w w' := ⟨h.1.mono h1, fun f hf => h.2 f (by omega)⟩
theorem Beside.of_below {lo hi n : Nat} {w w' : World} (h : Below n w w') (hn : w.heap.size ≤ n) (hl : lo ≤ n) : Beside lo hi w w' := ⟨h.mono hl, fun f _ hf => h.block f (by omega)⟩
theorem Is.agree {w w' : World} {g : Nat} {e : TypeId} {cs : Array Value} (h : Is w g e cs) (hg : w'.heap[g]? = w.heap[g]?) : Is w' g e cs := hg.trans h
theorem Is.beside {w w' : World} {g lo hi : Nat} {e : TypeId} {cs : Array Value} (h : Is w g e cs) (hb : Beside lo hi w w') (hg : g < lo ∨ hi ≤ g) : Is w' g e cs := by
  rcases hg with hg | hg
  · exact h.below hb.1 hg
  · exact h.agree (hb.2 g hg h.lt)
theorem Ow.beside {α : Type} {E : World → Nat → Nat → α → List Nat → Prop} {n : Nat} (hE : Loc E n) {w w' : World} {lo hi lo' hi' cap : Nat} {a : Option Addr} {l : List α} (h : Ow E n w lo hi a cap l) (hb : Beside lo' hi' w w') (hg : hi ≤ lo' ∨ hi' ≤ lo) : Ow E n w' lo hi a cap l := by
  rcases hg with hg | hg
  · exact h.below hE hb.1 hg
  · obtain ⟨F, h1, h2, h3⟩ := h
    have hF : ∀ f ∈ F, w'.heap[f]? = w.heap[f]? := fun f hf => hb.2 f (by have := (h3 f hf).1; omega) (h3 f hf).2.2.lt
    exact ⟨F, h1.agree hE hF, h2, fun f hf => ⟨(h3 f hf).1, (h3 f hf).2.1, (h3 f hf).2.2.agree (hF f hf)⟩⟩
theorem Own.beside {w w' : World} {lo hi lo' hi' cap : Nat} {a : Option Addr} {l : List T} (h : Own w lo hi a cap l) (hb : Beside lo' hi' w w') (hg : hi ≤ lo' ∨ hi' ≤ lo) : Own w' lo hi a cap l := by
  rcases hg with hg | hg
  · exact h.below hb.1 hg
  · obtain ⟨F, h1, h2, h3⟩ := h
    have hF : ∀ f ∈ F, w'.heap[f]? = w.heap[f]? := fun f hf => hb.2 f (by have := (h3 f hf).1; omega) (h3 f hf).2.2.lt
    exact ⟨F, h1.agree hF, h2, fun f hf => ⟨(h3 f hf).1, (h3 f hf).2.1, (h3 f hf).2.2.agree (hF f hf)⟩⟩
def EInt (w : World) (b o : Nat) (x : Int) (F : List Nat) : Prop := F = [] ∧ w.cell? ⟨b, o, none⟩ = some (.int .i64 x) ∧ I64 x
theorem EInt.loc : Loc EInt 1 := by
  intro x w w' b o F h hc _
  obtain ⟨h0, h1, h2⟩ := h
  exact ⟨h0, by rw [hc _ (by omega) (by omega)]; exact h1, h2⟩
theorem Rd.int {w : World} {B : Nat} {a : Option Addr} {cap : Nat} {l : List Int} (h : Rd EInt 1 w B a cap l) (i : Nat) (hi : i < l.length) :
    ∃ b o, a = some ⟨b, o, none⟩ ∧ b < B ∧ w.cell? ⟨b, o + i, none⟩ = some (.int .i64 l[i]) ∧ I64 l[i] := by
  obtain ⟨b, o, F, ha, hb, ⟨_, h1, h2⟩, _⟩ := h.get i hi
  exact ⟨b, o, ha, hb, by simpa using h1, h2⟩
/-- A byte, as the number that Go's uint8 has. -/
def U8 (n : Int) : Prop := 0 ≤ n ∧ n ≤ 255
def EByte (w : World) (b o : Nat) (x : Int) (F : List Nat) : Prop := F = [] ∧ w.cell? ⟨b, o, none⟩ = some (.int .u8 x) ∧ U8 x
theorem EByte.loc : Loc EByte 1 := by
  intro x w w' b o F h hc _
  obtain ⟨h0, h1, h2⟩ := h
  exact ⟨h0, by rw [hc _ (by omega) (by omega)]; exact h1, h2⟩
theorem Rd.byte {w : World} {B : Nat} {a : Option Addr} {cap : Nat} {l : List Int} (h : Rd EByte 1 w B a cap l) (i : Nat) (hi : i < l.length) :
    ∃ b o, a = some ⟨b, o, none⟩ ∧ b < B ∧ w.cell? ⟨b, o + i, none⟩ = some (.int .u8 l[i]) ∧ U8 l[i] := by
  obtain ⟨b, o, F, ha, hb, ⟨_, h1, h2⟩, _⟩ := h.get i hi
  exact ⟨b, o, ha, hb, by simpa using h1, h2⟩
end Go.Proofs.YtfbodhfdomdkpaaGreatDoor
namespace Go.Proofs.YtfbodhfdomdkpaaGreatDoor
open Go.ChangeShapes Go.WideShapes Go.ChangeAt Go.RowKit Go.Joins
set_option linter.unusedVariables false
set_option maxRecDepth 100000
theorem U8.of_wf {n : Int} (h : (Lit.int .u8 n).wf = true) : U8 n := by
  unfold U8
  have := h
  simp [Lit.wf, IntKind.min, IntKind.max, IntKind.signed, IntKind.bits] at this
  omega
theorem open_lawBytes {H : Type} {enc : TypeId × Value → H} {w : World} {r : Reach} {b0 : Nat} {v : Value} {d : DataW H} {p : List MemPlace} (hok : Value.okWide Tryz.prog w r b0 22 v) (h : DataW.Trod enc Tryz.prog w 0 (fun _ => true) true 22 v d p) :
    ∃ (t : List Int) (a : Option Addr) (cap : Nat), v = .slice a t.length cap ∧ True ∧ ∀ B, (∀ x ∈ p, x.block < B) → Rd EByte 1 w B a cap t := by
  obtain ⟨a0, len, cap0, rfl⟩ := okWide_slice Tryz.underlying22 hok
  obtain ⟨fuel, hf⟩ := h
  obtain ⟨l, a, cap, F, hcs, hsl, hF⟩ := trod_sl (E := EByte) Tryz.underlying22 (n := 1) (by kernel_rfl) (by omega) (fun fuel cs x h => by
    obtain ⟨k, e0, -, w0⟩ := DataW.trod_int Tryz.underlying5 h
    refine ⟨k, [], by rw [e0]; rfl, fun bb o hc => ⟨rfl, ?_, U8.of_wf w0⟩, by simp⟩
    subst e0
    simpa using hc 0 (by omega)) fuel _ _ hf
  refine ⟨l, a, cap, ?_, trivial, fun B hB => ⟨F, hsl, fun f hf => ?_⟩⟩
  · simpa [Value.cells] using hcs
  · obtain ⟨q, hq, rfl⟩ := hF f hf
    exact hB q hq
theorem info_Byte : (Tryz.prog.info? 5).map (fun i => (i.zero, i.size, i.bytes)) = some (some (.int .u8 0), 1, 1) := by kernel_rfl
end Go.Proofs.YtfbodhfdomdkpaaGreatDoor
namespace Go.Proofs.YtfbodhfdomdkpaaGreatDoor
open Go.ChangeShapes Go.WideShapes Go.ChangeAt Go.RowKit Go.Joins
set_option linter.unusedVariables false
set_option maxRecDepth 100000
/-! ### Writing into what one holds: only the blocks of F change. -/
structure Touch (F : List Nat) (w w' : World) : Prop where
  os : w'.os = w.os
  tape : w'.tape = w.tape
  output : w'.output = w.output
  size : w.heap.size ≤ w'.heap.size
  block : ∀ f, f < w.heap.size → f ∉ F → w'.heap[f]? = w.heap[f]?
  unf : ∀ f, Unf w f → Unf w' f
theorem Touch.refl (F : List Nat) (w : World) : Touch F w w := ⟨rfl, rfl, rfl, Nat.le_refl _, fun _ _ _ => rfl, fun _ h => h⟩
theorem Touch.trans {F : List Nat} {w w1 w2 : World} (h : Touch F w w1) (k : Touch F w1 w2) : Touch F w w2 :=
  ⟨k.os.trans h.os, k.tape.trans h.tape, k.output.trans h.output, Nat.le_trans h.size k.size, fun f hf hn => (k.block f (Nat.lt_of_lt_of_le hf h.size) hn).trans (h.block f hf hn), fun f hf => k.unf f (h.unf f hf)⟩
theorem Touch.mono {F G : List Nat} {w w' : World} (h : Touch F w w') (hs : ∀ f ∈ F, f ∈ G) : Touch G w w' := ⟨h.os, h.tape, h.output, h.size, fun f hf hn => h.block f hf (fun hh => hn (hs f hh)), h.unf⟩
theorem Touch.of_below {F : List Nat} {w w' : World} (h : Below w.heap.size w w') : Touch F w w' :=
  ⟨h.os, h.tape, h.output, h.size, fun f hf _ => h.block f hf, fun f hf => hf.agree (h.block f hf.lt)⟩
theorem Touch.set (w : World) (b o : Nat) (v : Value) : Touch [b] w (w.setCell ⟨b, o, none⟩ v) := by
  refine ⟨rfl, rfl, rfl, by rw [size_set]; exact Nat.le_refl _, fun f _ hn => heap_miss w b o f (by simpa using hn) v, fun f ⟨c, e, h⟩ => ?_⟩
  by_cases hf : f = b
  · subst hf
    exact ⟨c.setIfInBounds o v, e, by simp [World.setCell, Array.getElem?_modify, h]⟩
  · exact ⟨c, e, (heap_miss w b o f hf v).trans h⟩
theorem Touch.below {F : List Nat} {w w' : World} {lo : Nat} (h : Touch F w w') (hl : lo ≤ w.heap.size) (hF : ∀ f ∈ F, lo ≤ f) : Below lo w w' :=
  ⟨h.os, h.tape, h.output, h.size, fun f hf => h.block f (by omega) (fun hm => by have := hF f hm; omega)⟩
theorem Touch.beside {F : List Nat} {w w' : World} {lo hi : Nat} (h : Touch F w w') (hl : lo ≤ w.heap.size) (hF : ∀ f ∈ F, lo ≤ f ∧ f < hi) : Beside lo hi w w' :=
  ⟨h.below hl (fun f hf => (hF f hf).1), fun f hf hs => h.block f hs (fun hm => by have := (hF f hm).2; omega)⟩
section
variable {α : Type} {E : World → Nat → Nat → α → List Nat → Prop} {n : Nat}
theorem set_mid (A : List α) (x y : α) (B : List α) : (A ++ x :: B).set A.length y = A ++ y :: B := by simp
theorem Row.split {w : World} {b : Nat} {A B : List α} {o : Nat} {F : List Nat} (h : Row E n w b o (A ++ B) F) : ∃ F1 F2, F = F1 ++ F2 ∧ Row E n w b o A F1 ∧ Row E n w b (o + A.length * n) B F2 := by
  induction A generalizing o F with
  | nil => exact ⟨[], F, rfl, rfl, by simpa using h⟩
  | cons x A ih =>
    obtain ⟨G1, G2, rfl, h1, h2⟩ := h
    obtain ⟨F1, F2, rfl, k1, k2⟩ := ih h2
    refine ⟨G1 ++ F1, F2, by simp, ⟨G1, F1, rfl, h1, k1⟩, ?_⟩
    rw [List.length_cons, Nat.add_mul, show o + (A.length * n + 1 * n) = o + n + A.length * n from by omega]
    exact k2
theorem Row.join {w : World} {b : Nat} {A B : List α} {o : Nat} {F1 F2 : List Nat} (h1 : Row E n w b o A F1) (h2 : Row E n w b (o + A.length * n) B F2) : Row E n w b o (A ++ B) (F1 ++ F2) := by
  induction A generalizing o F1 with
  | nil => obtain rfl : F1 = [] := h1; simpa using h2
  | cons x A ih =>
    obtain ⟨G1, G2, rfl, k1, k2⟩ := h1
    rw [List.append_assoc]
    refine ⟨G1, G2 ++ F2, rfl, k1, ih k2 ?_⟩
    rw [List.length_cons, Nat.add_mul, show o + (A.length * n + 1 * n) = o + n + A.length * n from by omega] at h2
    exact h2
/-- One element is written anew, in its own cells and in its own blocks. -/
theorem Row.put (hE : Loc E n) {w w' : World} {b o : Nat} {A B : List α} {x : α} {F : List Nat} (h : Row E n w b o (A ++ x :: B) F) (hF : F.Nodup) (hbF : b ∉ F) :
    ∃ G, (∀ f ∈ G, f ∈ F) ∧ E w b (o + A.length * n) x G ∧ G.Nodup ∧
      ∀ {w' : World} {y : α}, E w' b (o + A.length * n) y G → (∀ i, i < o + A.length * n ∨ o + A.length * n + n ≤ i → w'.cell? ⟨b, i, none⟩ = w.cell? ⟨b, i, none⟩) → (∀ f ∈ F, f ∉ G → w'.heap[f]? = w.heap[f]?) → Row E n w' b o (A ++ y :: B) F := by
  obtain ⟨F1, F2, rfl, h1, h2⟩ := h.split
  obtain ⟨G, F3, rfl, k1, k2⟩ := h2
  obtain ⟨n1, n2, n3⟩ := List.nodup_append.1 hF
  obtain ⟨m1, m2, m3⟩ := List.nodup_append.1 n2
  refine ⟨G, fun f hf => by simp [hf], k1, m1, fun {w' y} hy hc hf => ?_⟩
  refine Row.join (h1.agree hE _ (fun i _ hi => hc i (by omega)) (fun f hm => hf f (by simp [hm]) (fun hg => n3 f hm f (by simp [hg]) rfl))) ?_
  refine ⟨G, F3, rfl, hy, k2.agree hE _ (fun i hi _ => hc i (by omega)) (fun f hm => hf f (by simp [hm]) (fun hg => m3 f hg f hm rfl))⟩
/-- Marks: every element is written anew, from k on; c: how far an element leads. -/
def mkL (me : α → Int → α) (c : α → Nat) : List α → Int → List α
  | [], _ => []
  | x :: r, k => me x k :: mkL me c r (k + c x)
def cL' (c : α → Nat) : List α → Nat | [] => 0 | x :: r => c x + cL' c r
variable {me : α → Int → α} {c : α → Nat}
theorem mkL_length (l : List α) (k : Int) : (mkL me c l k).length = l.length := by
  induction l generalizing k with
  | nil => rfl
  | cons x r ih => simp [mkL, ih]
theorem mkL_snoc (l : List α) (x : α) (k : Int) : mkL me c (l ++ [x]) k = mkL me c l k ++ [me x (k + cL' c l)] := by
  induction l generalizing k with
  | nil => simp [mkL, cL']
  | cons y r ih => simp only [List.cons_append, mkL, ih, cL']; rw [show k + (c y : Int) + (cL' c r : Nat) = k + ((c y + cL' c r : Nat) : Int) from by omega]
theorem cL'_append (a b : List α) : cL' c (a ++ b) = cL' c a + cL' c b := by
  induction a with
  | nil => simp [cL']
  | cons x r ih => simp [cL', ih, Nat.add_assoc]
theorem cL'_take_succ (l : List α) (j : Nat) (h : j < l.length) : cL' c (l.take (j + 1)) = cL' c (l.take j) + c l[j] := by
  rw [take_snoc l j h, cL'_append]; simp [cL']
theorem cL'_take_le (l : List α) (j : Nat) : cL' c (l.take j) ≤ cL' c l := by
  have := cL'_append (c := c) (l.take j) (l.drop j)
  rw [List.take_append_drop] at this; omega
theorem mkL_get (l : List α) (j : Nat) (k : Int) (h : j < l.length) (h' : j < (mkL me c l k).length) : (mkL me c l k)[j] = me l[j] (k + cL' c (l.take j)) := by
  induction l generalizing j k with
  | nil => simp at h
  | cons x r ih =>
    cases j with
    | zero => simp [mkL, cL']
    | succ j => simp only [mkL, List.getElem_cons_succ, List.take_succ_cons, cL']; rw [ih j _ (by simpa using h)]; congr 1; omega
/-- What the list looks like when the first j elements are marked. -/
def half (me : α → Int → α) (c : α → Nat) (l : List α) (k : Int) (j : Nat) : List α := mkL me c (l.take j) k ++ l.drop j
theorem half_zero (l : List α) (k : Int) : half me c l k 0 = l := by simp [half, mkL]
theorem half_all (l : List α) (k : Int) : half me c l k l.length = mkL me c l k := by simp [half]
theorem half_length (l : List α) (k : Int) (j : Nat) : (half me c l k j).length = l.length := by
  simp only [half, List.length_append, mkL_length, List.length_take, List.length_drop]; omega
theorem half_here (l : List α) (k : Int) (j : Nat) (h : j < l.length) : half me c l k j = mkL me c (l.take j) k ++ l[j] :: l.drop (j + 1) := by
  rw [half, List.drop_eq_getElem_cons h]
theorem half_succ (l : List α) (k : Int) (j : Nat) (h : j < l.length) : half me c l k (j + 1) = mkL me c (l.take j) k ++ me l[j] (k + cL' c (l.take j)) :: l.drop (j + 1) := by
  rw [half, take_snoc l j h, mkL_snoc, List.append_assoc]; rfl
theorem half_pre (l : List α) (k : Int) (j : Nat) (h : j < l.length) : (mkL me c (l.take j) k).length = j := by rw [mkL_length, List.length_take]; omega
/-- A slice of blocks of its own. -/
def OwF (E : World → Nat → Nat → α → List Nat → Prop) (n : Nat) (w : World) (a : Option Addr) (cap : Nat) (l : List α) (F : List Nat) : Prop := Sl E n w a cap l F ∧ F.Nodup ∧ ∀ f ∈ F, Unf w f
theorem OwF.len {w : World} {a : Option Addr} {cap : Nat} {l : List α} {F : List Nat} (h : OwF E n w a cap l F) : l.length ≤ cap ∧ cap ≤ 9223372036854775807 := by
  have := h.1.2.1; unfold maxLen at this
  exact ⟨h.1.1, by omega⟩
theorem Ow.toF {w : World} {lo hi cap : Nat} {a : Option Addr} {l : List α} (h : Ow E n w lo hi a cap l) : ∃ F, OwF E n w a cap l F ∧ ∀ f ∈ F, lo ≤ f ∧ f < hi := by
  obtain ⟨F, h1, h2, h3⟩ := h
  exact ⟨F, ⟨h1, h2, fun f hf => (h3 f hf).2.2⟩, fun f hf => ⟨(h3 f hf).1, (h3 f hf).2.1⟩⟩
theorem OwF.toOw {w : World} {lo hi cap : Nat} {a : Option Addr} {l : List α} {F : List Nat} (h : OwF E n w a cap l F) (hF : ∀ f ∈ F, lo ≤ f ∧ f < hi) : Ow E n w lo hi a cap l := ⟨F, h.1, h.2.1, fun f hf => ⟨(hF f hf).1, (hF f hf).2, h.2.2 f hf⟩⟩
theorem OwF.start {w : World} {a : Option Addr} {cap : Nat} {l : List α} {F : List Nat} (h : OwF E n w a cap l F) (k : Int) : OwF E n w a cap (half me c l k 0) F := by rw [half_zero]; exact h
theorem OwF.done {w : World} {a : Option Addr} {cap j : Nat} {l : List α} {F : List Nat} {k : Int} (h : OwF E n w a cap (half me c l k j) F) (hj : l.length = j) : OwF E n w a cap (mkL me c l k) F := by rw [← hj, half_all] at h; exact h
/-- The element that is marked next: where it lies, and what is to be shown of the stores. -/
theorem OwF.next (hE : Loc E n) {w : World} {a : Option Addr} {cap j : Nat} {l : List α} {F : List Nat} {k : Int} (h : OwF E n w a cap (half me c l k j) F) (hj : j < l.length) :
    ∃ b o G, a = some ⟨b, o, none⟩ ∧ b ∈ F ∧ Unf w b ∧ b ∉ G ∧ (∀ f ∈ G, f ∈ F) ∧ G.Nodup ∧ E w b (o + j * n) l[j] G ∧
      ∀ w' : World, E w' b (o + j * n) (me l[j] (k + cL' c (l.take j))) G → (∀ i, i < o + j * n ∨ o + j * n + n ≤ i → w'.cell? ⟨b, i, none⟩ = w.cell? ⟨b, i, none⟩) → Touch (b :: G) w w' → OwF E n w' a cap (half me c l k (j + 1)) F := by
  obtain ⟨⟨h1, h2, h3, h4⟩, h5, h6⟩ := h
  have hne : half me c l k j ≠ [] := by intro e; have := half_length (me := me) (c := c) l k j; rw [e] at this; simp at this; omega
  obtain ⟨b, o, F', rfl, rfl, hr⟩ := h4 hne
  rw [half_here l k j hj] at hr
  obtain ⟨hb, hn⟩ := List.nodup_cons.1 h5
  have hp := half_pre (me := me) (c := c) l k j hj
  obtain ⟨G, g1, g2, g3, g4⟩ := Row.put hE (w' := w) hr hn hb
  rw [hp] at g2
  refine ⟨b, o, G, rfl, by simp, h6 b (by simp), fun hg => hb (g1 b hg), fun f hf => by simp [g1 f hf], g3, g2, fun w' hy hc ht => ?_⟩
  refine ⟨⟨by rw [half_length] at h1 ⊢; exact h1, h2, fun e => ?_, fun _ => ⟨b, o, F', rfl, rfl, ?_⟩⟩, h5, fun f hf => ht.unf f (h6 f hf)⟩
  · have := half_length (me := me) (c := c) l k (j + 1); rw [e] at this; simp at this; omega
  · rw [half_succ l k j hj]
    refine g4 (by rw [hp]; exact hy) (by rw [hp]; exact hc) (fun f hf hg => ht.block f (h6 f (by simp [hf])).lt ?_)
    rw [List.mem_cons]
    rintro (rfl | hh)
    · exact hb hf
    · exact hg hh
end
theorem Unf.frozen {w : World} {b : Nat} (hu : Unf w b) (i : Nat) : w.frozen? ⟨b, i, none⟩ = false := by
  obtain ⟨c, e, hc⟩ := hu
  simp only [World.frozen?, hc]; simp
theorem hit_of {w : World} {b i : Nat} {x : Value} (hu : Unf w b) (h : w.cell? ⟨b, i, none⟩ = some x) (v : Value) : (w.setCell ⟨b, i, none⟩ v).cell? ⟨b, i, none⟩ = some v := by
  obtain ⟨c, e, hc⟩ := hu
  have hlt : i < c.size := by
    simp only [World.cell?, hc] at h
    simp at h
    exact (Array.getElem?_eq_some_iff.1 h).1
  simp [World.setCell, World.cell?, Array.getElem?_modify, hc, hlt]
theorem Unf.set {w : World} {b : Nat} (hu : Unf w b) (b' o : Nat) (v : Value) : Unf (w.setCell ⟨b', o, none⟩ v) b := (Touch.set w b' o v).unf b hu
theorem Touch.one {F : List Nat} {w0 w : World} (h : Touch F w0 w) {b : Nat} (hb : b ∈ F) (o : Nat) (v : Value) : Touch F w0 (w.setCell ⟨b, o, none⟩ v) := h.trans ((Touch.set w b o v).mono (by simpa using hb))
end Go.Proofs.YtfbodhfdomdkpaaGreatDoor
namespace Go.Proofs.YtfbodhfdomdkpaaGreatDoor
open Go.ChangeShapes Go.WideShapes Go.ChangeAt Go.RowKit Go.Joins
set_option linter.unusedVariables false
set_option maxRecDepth 100000
/-! ### Lists that grow by append -/
section
variable {α : Type}
/-- E looks at the values of its n cells, wherever they lie, and at the blocks of F. -/
structure Elem (E : World → Nat → Nat → α → List Nat → Prop) (n : Nat) : Prop where
  pos : 0 < n
  mov : ∀ (x : α) {w w' : World} {b o b' o' : Nat} {F : List Nat}, E w b o x F → (∀ i, i < n → w'.cell? ⟨b', o' + i, none⟩ = w.cell? ⟨b, o + i, none⟩) → Agree w w' F → E w' b' o' x F
  cel : ∀ (x : α) {w : World} {b o : Nat} {F : List Nat}, E w b o x F → ∀ i, i < n → ∃ u, w.cell? ⟨b, o + i, none⟩ = some u ∧ u.oneCell' = true
variable {E : World → Nat → Nat → α → List Nat → Prop} {n : Nat}
theorem Elem.loc (h : Elem E n) : Loc E n := fun x {w w' b o F} hx hc hF => h.mov x hx (fun i hi => hc (o + i) (by omega) (by omega)) hF
theorem Row.mov (hE : Elem E n) {w w' : World} {b b' : Nat} : ∀ (l : List α) {o o' : Nat} {F : List Nat}, Row E n w b o l F → (∀ i, i < l.length * n → w'.cell? ⟨b', o' + i, none⟩ = w.cell? ⟨b, o + i, none⟩) → Agree w w' F → Row E n w' b' o' l F := by
  intro l
  induction l with
  | nil => intro o o' F h _ _; exact h
  | cons t r ih =>
    intro o o' F h hb hF
    obtain ⟨F1, F2, rfl, h1, h2⟩ := h
    simp only [List.length_cons, Nat.add_mul, Nat.one_mul] at hb
    refine ⟨F1, F2, rfl, hE.mov t h1 (fun i hi => hb i (by omega)) hF.left, ih h2 (fun i hi => ?_) hF.right⟩
    have := hb (n + i) (by omega)
    rwa [show o' + (n + i) = o' + n + i from by omega, show o + (n + i) = o + n + i from by omega] at this
theorem Row.cel (hE : Elem E n) {w : World} {b : Nat} : ∀ (l : List α) {o : Nat} {F : List Nat}, Row E n w b o l F → ∀ i, i < l.length * n → ∃ u, w.cell? ⟨b, o + i, none⟩ = some u ∧ u.oneCell' = true := by
  intro l
  induction l with
  | nil => intro o F _ i hi; simp at hi
  | cons t r ih =>
    intro o F h i hi
    obtain ⟨F1, F2, rfl, h1, h2⟩ := h
    simp only [List.length_cons, Nat.add_mul, Nat.one_mul] at hi
    by_cases hin : i < n
    · exact hE.cel t h1 i hin
    · obtain ⟨u, hu, h⟩ := ih h2 (i - n) (by omega)
      rw [show o + n + (i - n) = o + i from by omega] at hu
      exact ⟨u, hu, h⟩
theorem Row.append {w : World} {b : Nat} {A B : List α} {o : Nat} {F1 F2 : List Nat} (h1 : Row E n w b o A F1) (h2 : Row E n w b (o + A.length * n) B F2) : Row E n w b o (A ++ B) (F1 ++ F2) := by
  induction A generalizing o F1 with
  | nil => obtain rfl : F1 = [] := h1; simpa using h2
  | cons x A ih =>
    obtain ⟨G1, G2, rfl, k1, k2⟩ := h1
    rw [List.append_assoc]
    refine ⟨G1, G2 ++ F2, rfl, k1, ih k2 ?_⟩
    rw [List.length_cons, Nat.add_mul, show o + (A.length * n + 1 * n) = o + n + A.length * n from by omega] at h2
    exact h2
/-- The slice value 'slice a l.length cap' is the call's own and may be appended to: its blocks lie from lo up to hi. nd: each of them serves once. -/
def App (E : World → Nat → Nat → α → List Nat → Prop) (n : Nat) (e : TypeId) (nd : Prop) (w : World) (lo hi : Nat) (a : Option Addr) (cap : Nat) (l : List α) : Prop :=
  (a = none ∧ cap = 0 ∧ l = []) ∨ ∃ g cur F, a = some ⟨g, 0, none⟩ ∧ lo ≤ g ∧ g < hi ∧ w.heap[g]? = some (.cells cur e (0, 0)) ∧ l.length ≤ cap ∧ cap ≤ maxLen ∧ cur.size = cap * n ∧ Row E n w g 0 l F ∧ g ∉ F ∧ (nd → F.Nodup) ∧ ∀ f ∈ F, lo ≤ f ∧ f < hi ∧ Unf w f
variable {e : TypeId} {nd : Prop}
theorem App.nil (w : World) (lo hi : Nat) : App E n e nd w lo hi none 0 [] := Or.inl ⟨rfl, rfl, rfl⟩
theorem App.empty (w : World) (lo hi : Nat) (hl : lo ≤ w.heap.size) (hh : w.heap.size < hi) : App E n e nd (w.alloc (.cells #[] e)) lo hi (some ⟨w.heap.size, 0, none⟩) 0 [] :=
  Or.inr ⟨w.heap.size, #[], [], rfl, hl, hh, heap_alloc_new w _, Nat.le_refl _, by simp [maxLen], by simp, rfl, by simp, by simp, by simp⟩
theorem App.below (hE : Elem E n) {w w' : World} {lo hi cap m : Nat} {a : Option Addr} {l : List α} (h : App E n e nd w lo hi a cap l) (hb : Below m w w') (hm : hi ≤ m) : App E n e nd w' lo hi a cap l := by
  rcases h with h | ⟨g, cur, F, ha, h1, h2, h3, h4, h5, h6, h7, h8, h9, h10⟩
  · exact Or.inl h
  · refine Or.inr ⟨g, cur, F, ha, h1, h2, (hb.block g (by omega)).trans h3, h4, h5, h6, h7.agree hE.loc l (Cells.of_block (hb.block g (by omega)) _ _) (fun f hf => hb.block f (by have := (h10 f hf).2.1; omega)), h8, h9, fun f hf => ⟨(h10 f hf).1, (h10 f hf).2.1, (h10 f hf).2.2.agree (hb.block f (by have := (h10 f hf).2.1; omega))⟩⟩
theorem App.more {w : World} {lo hi lo' hi' cap : Nat} {a : Option Addr} {l : List α} (h : App E n e nd w lo hi a cap l) (h1 : lo' ≤ lo) (h2 : hi ≤ hi') : App E n e nd w lo' hi' a cap l := by
  rcases h with h | ⟨g, cur, F, ha, k1, k2, h3, h4, h5, h6, h7, h8, h9, h10⟩
  · exact Or.inl h
  · exact Or.inr ⟨g, cur, F, ha, by omega, by omega, h3, h4, h5, h6, h7, h8, h9, fun f hf => ⟨by have := (h10 f hf).1; omega, by have := (h10 f hf).2.1; omega, (h10 f hf).2.2⟩⟩
theorem App.len {w : World} {lo hi cap : Nat} {a : Option Addr} {l : List α} (h : App E n e nd w lo hi a cap l) : l.length ≤ cap ∧ cap ≤ 9223372036854775807 := by
  rcases h with ⟨_, rfl, rfl⟩ | ⟨g, cur, F, ha, k1, k2, h3, h4, h5, h6, h7, h8, h9, h10⟩
  · simp
  · unfold maxLen at h5; omega
theorem App.read {w : World} {lo hi cap : Nat} {a : Option Addr} {l : List α} (h : App E n e nd w lo hi a cap l) : Rd E n w hi a cap l := by
  rcases h with ⟨rfl, rfl, rfl⟩ | ⟨g, cur, F, rfl, k1, k2, h3, h4, h5, h6, h7, h8, h9, h10⟩
  · exact ⟨[], Sl.nil _ _ _ (by simp [maxLen]), by simp⟩
  · by_cases hl : l = []
    · subst hl; exact ⟨[], Sl.nil _ _ _ h5, by simp⟩
    · exact ⟨g :: F, ⟨h4, h5, fun h => absurd h hl, fun _ => ⟨g, 0, F, rfl, rfl, h7⟩⟩, by
        intro f hf
        rcases List.mem_cons.1 hf with rfl | hf
        · exact k2
        · exact (h10 f hf).2.1⟩
theorem App.own {w : World} {lo hi cap : Nat} {a : Option Addr} {l : List α} (h : App E n e True w lo hi a cap l) : Ow E n w lo hi a cap l := by
  rcases h with ⟨rfl, rfl, rfl⟩ | ⟨g, cur, F, rfl, k1, k2, h3, h4, h5, h6, h7, h8, h9, h10⟩
  · exact Ow.nil _ _ _ _ _ (by simp [maxLen])
  · by_cases hl : l = []
    · subst hl; exact Ow.nil _ _ _ _ _ h5
    · refine ⟨g :: F, ⟨h4, h5, fun h => absurd h hl, fun _ => ⟨g, 0, F, rfl, rfl, h7⟩⟩, List.nodup_cons.2 ⟨h8, h9 trivial⟩, ?_⟩
      intro f hf
      rcases List.mem_cons.1 hf with rfl | hf
      · exact ⟨k1, k2, ⟨_, _, h3⟩⟩
      · exact h10 f hf
theorem cells_list {w : World} {b o k : Nat} (h : ∀ i, i < k → ∃ u, w.cell? ⟨b, o + i, none⟩ = some u ∧ u.oneCell' = true) : ∃ cs : List Value, cs.length = k ∧ (∀ i, i < k → w.cell? ⟨b, o + i, none⟩ = cs[i]?) ∧ ∀ u ∈ cs, u.oneCell' = true := by
  induction k with
  | zero => exact ⟨[], rfl, by simp, by simp⟩
  | succ k ih =>
    obtain ⟨cs, h1, h2, h3⟩ := ih (fun i hi => h i (by omega))
    obtain ⟨u, hu, ho⟩ := h k (by omega)
    refine ⟨cs ++ [u], by simp [h1], fun i hi => ?_, fun v hv => ?_⟩
    · by_cases hik : i < k
      · rw [h2 i hik, List.getElem?_append_left (by omega)]
      · obtain rfl : i = k := by omega
        rw [hu, List.getElem?_append_right (by omega), h1]; simp
    · rcases List.mem_append.1 hv with hv | hv
      · exact h3 v hv
      · simp at hv; subst hv; exact ho
/-- What append leaves, in these words. -/
theorem App.grown (hE : Elem E n) {w w' : World} {lo hi cap cap' : Nat} {a : Option Addr} {l ys : List α} {b o g' : Nat} {G : List Nat} {news xs : List Value}
    (h : App E n e nd w lo hi a cap l) (hhi : hi ≤ w.heap.size) (hys : Row E n w b o ys G) (hG : nd → G.Nodup) (hG2 : ∀ f ∈ G, lo ≤ f ∧ f < w.heap.size ∧ Unf w f ∧ ∀ k, (Value.slice a l.length cap).ownBlock = some k → f ≠ k) (hG3 : nd → ∀ f ∈ G, hi ≤ f)
    (hnl : news.length = ys.length * n) (hnc : ∀ i, i < ys.length * n → w.cell? ⟨b, o + i, none⟩ = news[i]?) (hxs : ∀ g, a = some ⟨g, 0, none⟩ → ∀ i, i < l.length * n → w.cell? ⟨g, 0 + i, none⟩ = xs[i]?) (hxl : xs.length = l.length * n)
    (hown : w'.ownsRow lo e n (.slice (some ⟨g', 0, none⟩) (l.length + ys.length) cap') (l.length + ys.length) (xs ++ news)) (hgr : w.grownBy w' (Value.slice a l.length cap).ownBlock) (hat : (Value.slice a l.length cap).ownBlock = some g' ∨ g' = w.heap.size) (hlt : g' < w'.heap.size) :
    App E n e nd w' lo w'.heap.size (some ⟨g', 0, none⟩) cap' (l ++ ys) ∧ (lo ≤ w.heap.size → Below lo w w') ∧ (∀ f, f < w.heap.size → (∀ k, (Value.slice a l.length cap).ownBlock = some k → f ≠ k) → w'.heap[f]? = w.heap[f]?) := by
  have hsz := hgr.size
  have hout : ∀ f, f < w.heap.size → (∀ k, (Value.slice a l.length cap).ownBlock = some k → f ≠ k) → w'.heap[f]? = w.heap[f]? := fun f hf hk => hgr.block f hf (fun e => hk f e.symm rfl)
  have hrow : ∃ cur, w'.heap[g']? = some (.cells cur e (0, 0)) ∧ l.length + ys.length ≤ cap' ∧ cap' ≤ maxLen ∧ cur.size = cap' * n ∧ cur.toList.take ((l.length + ys.length) * n) = xs ++ news ∧ lo ≤ g' := by
    rcases hown.2 with ⟨h0, _⟩ | ⟨g, cap2, cur, hv, hb, hg, h1, h2, h3, h4⟩
    · cases h0
    · injection hv with hv1 hv2 hv3
      injection hv1 with hv1
      injection hv1 with hv1
      subst hv1 hv3
      exact ⟨cur, hg, h1, h2, h3, h4, hb⟩
  obtain ⟨cur, r1, r2, r3, r4, r5, r6⟩ := hrow
  have hcell : ∀ i, i < (l.length + ys.length) * n → w'.cell? ⟨g', i, none⟩ = (xs ++ news)[i]? := by
    intro i hi
    rw [← r5, List.getElem?_take, if_pos hi]
    have hle : (l.length + ys.length) * n ≤ cap' * n := Nat.mul_le_mul_right _ r2
    simp [World.cell?, r1]
  have hmul : (l.length + ys.length) * n = l.length * n + ys.length * n := Nat.add_mul _ _ _
  refine ⟨?_, fun hl => ⟨hgr.os, hgr.tape, hgr.output, hgr.size, fun k hk => hgr.block k (by omega) ?_⟩, hout⟩
  · have hyr : Row E n w' g' (0 + l.length * n) ys G := by
      refine hys.mov hE ys (fun i hi => ?_) (fun f hf => hout f (hG2 f hf).2.1 (hG2 f hf).2.2.2)
      rw [Nat.zero_add, hcell _ (by omega), List.getElem?_append_right (by omega), hnc i hi, hxl]
      congr 1; omega
    have hgG : g' ∉ G := by
      intro hm
      rcases hat with h1 | h1
      · exact (hG2 g' hm).2.2.2 g' h1 rfl
      · have := (hG2 g' hm).2.1; omega
    rcases h with ⟨rfl, rfl, rfl⟩ | ⟨g, cur0, F, rfl, k1, k2, h3, h4, h5, h6, h7, h8, h9, h10⟩
    · refine Or.inr ⟨g', cur, G, rfl, r6, hlt, r1, by simpa using r2, r3, r4, by simpa using hyr, hgG, hG, fun f hf => ⟨(hG2 f hf).1, by have := (hG2 f hf).2.1; omega, (hG2 f hf).2.2.1.agree (hout f (hG2 f hf).2.1 (hG2 f hf).2.2.2)⟩⟩
    · have hFo : ∀ f ∈ F, w'.heap[f]? = w.heap[f]? := fun f hf => hout f (by have := (h10 f hf).2.1; omega) (fun k hk => by simp only [Value.ownBlock, Option.some.injEq] at hk; subst hk; rintro rfl; exact h8 hf)
      have hlr : Row E n w' g' 0 l F := by
        refine h7.mov hE l (fun i hi => ?_) hFo
        rw [Nat.zero_add, hcell _ (by omega), List.getElem?_append_left (by omega)]
        have := hxs g rfl i hi
        rw [Nat.zero_add] at this
        exact this.symm
      have hgF : g' ∉ F := by
        intro hm
        rcases hat with h1 | h1
        · simp only [Value.ownBlock, Option.some.injEq] at h1; subst h1; exact h8 hm
        · have := (h10 g' hm).2.1; omega
      refine Or.inr ⟨g', cur, F ++ G, rfl, r6, hlt, r1, by simpa using r2, r3, r4, hlr.append hyr, by simp [hgF, hgG], fun hnd => ?_, fun f hf => ?_⟩
      · rw [List.nodup_append]
        refine ⟨h9 hnd, hG hnd, ?_⟩
        intro x hx y hy e
        have := (h10 x hx).2.1
        have := hG3 hnd y hy
        omega
      · rcases List.mem_append.1 hf with hf | hf
        · exact ⟨(h10 f hf).1, by have := (h10 f hf).2.1; omega, (h10 f hf).2.2.agree (hFo f hf)⟩
        · exact ⟨(hG2 f hf).1, by have := (hG2 f hf).2.1; omega, (hG2 f hf).2.2.1.agree (hout f (hG2 f hf).2.1 (hG2 f hf).2.2.2)⟩
  · intro hk2
    rcases h with ⟨rfl, rfl, rfl⟩ | ⟨g, cur0, F, rfl, k1, k2, _⟩
    · simp [Value.ownBlock] at hk2
    · simp [Value.ownBlock] at hk2; omega
theorem App.owns {w : World} {lo hi cap : Nat} {a : Option Addr} {l : List α} (hE : Elem E n) (h : App E n e nd w lo hi a cap l) :
    ∃ xs : List Value, w.ownsRow lo e n (.slice a l.length cap) l.length xs ∧ xs.length = l.length * n ∧ ∀ g, a = some ⟨g, 0, none⟩ → ∀ i, i < l.length * n → w.cell? ⟨g, 0 + i, none⟩ = xs[i]? := by
  rcases h with ⟨rfl, rfl, rfl⟩ | ⟨g, cur, F, rfl, k1, k2, h3, h4, h5, h6, h7, h8, h9, h10⟩
  · exact ⟨[], World.ownsRow_nil _ _ _ _, by simp, by simp⟩
  · have hle : l.length * n ≤ cur.size := by rw [h6]; exact Nat.mul_le_mul_right _ h4
    have hl : (cur.toList.take (l.length * n)).length = l.length * n := by simp; omega
    refine ⟨cur.toList.take (l.length * n), ⟨hl, Or.inr ⟨g, cap, cur, rfl, k1, h3, h4, h5, h6, rfl⟩⟩, hl, ?_⟩
    intro g2 hg2 i hi
    injection hg2 with hg2
    injection hg2 with hg2
    subst hg2
    rw [Nat.zero_add, List.getElem?_take, if_pos hi]
    simp [World.cell?, h3]
/-- APPEND, at the list of a plain region's operations. -/
theorem wpList_app {P : Program} {w : World} (hE : Elem E n) {ops : Array Oper} {rest : List Oper} {o : Oper} {act : Act} {Q : Exit → Act → World → Prop} (hgd : o.guard = none) (s x : Operand) (t : TypeId)
    (ho : o.op = .call { callee := .builtin .append, args := #[s, x], argTypes := #[t, t] }) (z : Value) (bytes : Nat) (ht : P.underlying t = some (.slice e)) (hinfo : (P.info? e).map (fun i => (i.zero, i.size, i.bytes)) = some (some z, n, bytes)) (hzs : z.cells.size = n)
    (lo hi : Nat) (a : Option Addr) (cap : Nat) (l : List α) (hs : act.eval s = .slice a l.length cap) (happ : App E n e nd w lo hi a cap l) (hhi : hi ≤ w.heap.size) (hlo : lo ≤ w.heap.size)
    (b off m c : Nat) (ys : List α) (G : List Nat) (hx : act.eval x = .slice (some ⟨b, off, none⟩) m c) (hm : ys.length = m) (hys : Row E n w b off ys G) (hG : nd → G.Nodup) (hG2 : ∀ f ∈ G, lo ≤ f ∧ f < w.heap.size ∧ Unf w f ∧ ∀ k, (Value.slice a l.length cap).ownBlock = some k → f ≠ k) (hG3 : nd → ∀ f ∈ G, hi ≤ f)
    (hpos : 0 < m) (h63 : l.length + m ≤ maxLen) (hbytes : (l.length + m) * bytes ≤ 140737488355328)
    (h : ∀ a' cap' w', App E n e nd w' lo w'.heap.size a' cap' (l ++ ys) → Below lo w w' → (∀ f, f < w.heap.size → (∀ k, (Value.slice a l.length cap).ownBlock = some k → f ≠ k) → w'.heap[f]? = w.heap[f]?) → wpList P ops Q rest (act.put o.dst (.slice a' (l ++ ys).length cap')) w') : wpList P ops Q (o :: rest) act w := by
  obtain ⟨i, hi', hz0, hz1, hz2⟩ := info_parts hinfo
  obtain ⟨xs, q1, q2, q3⟩ := happ.owns hE
  subst hm
  obtain ⟨news, n1, n2, n3⟩ := cells_list (hys.cel hE ys)
  refine wpList_append_lies w hgd s x t ho lo e i z n bytes ht hi' hz0 hz1 hz2 hzs hE.pos (.slice a l.length cap) l.length xs hs q1 ⟨b, off, none⟩ ys.length c news hx n1 (fun j u hj => ?_) n3 hpos h63 hbytes hlo w.heap.size rfl (fun g' cap' w' hown hgr hat hlt => ?_)
  · have hj2 : j < ys.length * n := by
      rcases Nat.lt_or_ge j (ys.length * n) with h | h
      · exact h
      · rw [List.getElem?_eq_none (by omega)] at hj; cases hj
    rw [← hj, ← n2 j hj2, Addr.add_lit]
  · obtain ⟨r1, r2, r3⟩ := App.grown hE happ hhi hys hG hG2 hG3 n1 n2 q3 q2 hown hgr hat hlt
    have := h _ _ w' r1 (r2 hlo) r3
    rwa [List.length_append] at this
end
theorem EInt.elem : Elem EInt 1 := by
  refine ⟨by omega, ?_, ?_⟩
  · intro x w w' b o b' o' F h hc _
    exact ⟨h.1, by have := hc 0 (by omega); rw [Nat.add_zero, Nat.add_zero] at this; rw [this]; exact h.2.1, h.2.2⟩
  · intro x w b o F h i hi
    obtain rfl : i = 0 := by omega
    exact ⟨_, h.2.1, rfl⟩
theorem EByte.elem : Elem EByte 1 := by
  refine ⟨by omega, ?_, ?_⟩
  · intro x w w' b o b' o' F h hc _
    exact ⟨h.1, by have := hc 0 (by omega); rw [Nat.add_zero, Nat.add_zero] at this; rw [this]; exact h.2.1, h.2.2⟩
  · intro x w b o F h i hi
    obtain rfl : i = 0 := by omega
    exact ⟨_, h.2.1, rfl⟩
theorem EStep.elem : Elem EStep 2 := by
  refine ⟨by omega, ?_, ?_⟩
  · intro x w w' b o b' o' F h hc _
    have h0 := hc 0 (by omega)
    have h1 := hc 1 (by omega)
    rw [Nat.add_zero, Nat.add_zero] at h0
    exact ⟨h.1, by rw [h0]; exact h.2.1, by rw [h1]; exact h.2.2.1, h.2.2.2⟩
  · intro x w b o F h i hi
    rcases (by omega : i = 0 ∨ i = 1) with rfl | rfl
    · exact ⟨_, h.2.1, rfl⟩
    · exact ⟨_, h.2.2.1, rfl⟩
theorem ELoss.elem : Elem ELoss 2 := by
  refine ⟨by omega, ?_, ?_⟩
  · intro x w w' b o b' o' F h hc hF
    have h0 := hc 0 (by omega)
    have h1 := hc 1 (by omega)
    rw [Nat.add_zero, Nat.add_zero] at h0
    obtain ⟨k1, k2, a, cap, k3, k4⟩ := h
    exact ⟨by rw [h0]; exact k1, k2, a, cap, by rw [h1]; exact k3, k4.agree EStep.loc hF⟩
  · intro x w b o F h i hi
    obtain ⟨k1, k2, a, cap, k3, k4⟩ := h
    rcases (by omega : i = 0 ∨ i = 1) with rfl | rfl
    · exact ⟨_, k1, rfl⟩
    · exact ⟨_, k3, rfl⟩
end Go.Proofs.YtfbodhfdomdkpaaGreatDoor
namespace Go.Proofs.YtfbodhfdomdkpaaGreatDoor
open Go.ChangeShapes Go.WideShapes Go.ChangeAt Go.RowKit Go.Joins
set_option linter.unusedVariables false
set_option maxRecDepth 100000
def mdig (k : Nat) (out : ByteArray) : ByteArray := if h : k = 0 then out else mdig (k / 10) (strOfNums [48 + (k : Int) % 10] ++ out)
termination_by k
decreasing_by omega
theorem mdig_zero (out : ByteArray) : mdig 0 out = out := by rw [mdig]; simp
theorem mdig_pos (k : Nat) (h : k ≠ 0) (out : ByteArray) : mdig k out = mdig (k / 10) (strOfNums [48 + (k : Int) % 10] ++ out) := by rw [mdig]; simp [h]
def mtxt (k : Int) : ByteArray := ⟨#[109]⟩ ++ mdig k.toNat ⟨#[]⟩
theorem mdig_size (k : Nat) : ∀ out : ByteArray, (mdig k out).size ≤ out.size + k := by
  induction k using Nat.strongRecOn with
  | ind k ih =>
    intro out
    by_cases h : k = 0
    · subst h; rw [mdig_zero]; omega
    · rw [mdig_pos k h]
      have := ih (k / 10) (by omega) (strOfNums [48 + (k : Int) % 10] ++ out)
      rw [ByteArray.size_append, strOfNums_size] at this
      simp at this
      omega
theorem mtxt_size (k : Int) : (mtxt k).size ≤ 1 + k.toNat := by
  unfold mtxt
  have := mdig_size k.toNat ⟨#[]⟩
  rw [ByteArray.size_append]
  have h1 : (⟨#[109]⟩ : ByteArray).size = 1 := rfl
  have h2 : (⟨#[]⟩ : ByteArray).size = 0 := rfl
  omega
theorem T.k_mk (a b c : Int) (s : ByteArray) (l : List T) : (T.mk a b c s l).k = a := rfl
theorem T.n_mk (a b c : Int) (s : ByteArray) (l : List T) : (T.mk a b c s l).n = b := rfl
theorem T.x_mk (a b c : Int) (s : ByteArray) (l : List T) : (T.mk a b c s l).x = c := rfl
theorem T.s_mk (a b c : Int) (s : ByteArray) (l : List T) : (T.mk a b c s l).s = s := rfl
theorem T.l_mk (a b c : Int) (s : ByteArray) (l : List T) : (T.mk a b c s l).l = l := rfl
theorem TR.row {w : World} {b : Nat} : ∀ {l : List T} {o : Nat} {F : List Nat}, TR w b o l F ↔ Row TV 5 w b o l F := by
  intro l
  induction l with
  | nil => intro o F; rw [TR]; exact Iff.rfl
  | cons t r ih =>
    intro o F
    rw [TR]
    constructor
    · rintro ⟨F1, F2, h, h1, h2⟩; exact ⟨F1, F2, h, h1, ih.1 h2⟩
    · rintro ⟨F1, F2, h, h1, h2⟩; exact ⟨F1, F2, h, h1, ih.2 h2⟩
theorem TL.sl {w : World} {a : Option Addr} {cap : Nat} {l : List T} {F : List Nat} : TL w a cap l F ↔ Sl TV 5 w a cap l F := by
  constructor
  · rintro ⟨h1, h2, h3, h4⟩
    refine ⟨h1, h2, h3, fun hne => ?_⟩
    obtain ⟨b, o, F', ha, hF, hr⟩ := h4 hne
    exact ⟨b, o, F', ha, hF, TR.row.1 hr⟩
  · rintro ⟨h1, h2, h3, h4⟩
    refine ⟨h1, h2, h3, fun hne => ?_⟩
    obtain ⟨b, o, F', ha, hF, hr⟩ := h4 hne
    exact ⟨b, o, F', ha, hF, TR.row.2 hr⟩
theorem TV.elem : Elem TV 5 := by
  refine ⟨by omega, ?_, ?_⟩
  · intro x w w' b o b' o' F h hc hF
    rw [← T.eta x, TV.iff] at h ⊢
    obtain ⟨h0, h1, h2, h3, i0, i1, i2, i3, a, cap, h4, hl⟩ := h
    refine ⟨(hc 0 (by omega)).trans h0, (hc 1 (by omega)).trans h1, (hc 2 (by omega)).trans h2, (hc 3 (by omega)).trans h3, i0, i1, i2, i3, a, cap, (hc 4 (by omega)).trans h4, hl.agree hF⟩
  · intro x w b o F h i hi
    rw [← T.eta x, TV.iff] at h
    obtain ⟨h0, h1, h2, h3, i0, i1, i2, i3, a, cap, h4, hl⟩ := h
    rcases (by omega : i = 0 ∨ i = 1 ∨ i = 2 ∨ i = 3 ∨ i = 4) with rfl | rfl | rfl | rfl | rfl
    · exact ⟨_, h0, rfl⟩
    · exact ⟨_, h1, rfl⟩
    · exact ⟨_, h2, rfl⟩
    · exact ⟨_, h3, rfl⟩
    · exact ⟨_, h4, rfl⟩
theorem R.rd {w : World} {B cap : Nat} {a : Option Addr} {l : List T} : R w B a cap l ↔ Rd TV 5 w B a cap l := by
  constructor
  · rintro ⟨F, h, k⟩; exact ⟨F, TL.sl.1 h, k⟩
  · rintro ⟨F, h, k⟩; exact ⟨F, TL.sl.2 h, k⟩
theorem Own.ow {w : World} {lo hi cap : Nat} {a : Option Addr} {l : List T} : Own w lo hi a cap l ↔ Ow TV 5 w lo hi a cap l := by
  constructor
  · rintro ⟨F, h, k⟩; exact ⟨F, TL.sl.1 h, k⟩
  · rintro ⟨F, h, k⟩; exact ⟨F, TL.sl.2 h, k⟩
/-! ### Marks on trees -/
mutual
def meT : T → Int → T | .mk _ _ _ _ l, k => .mk k (k + 1) (k + 1 + 1) (mtxt (k + 1 + 1 + 1)) (meTs l (k + 1 + 1 + 1 + 1))
def meTs : List T → Int → List T
  | [], _ => []
  | t :: r, k => meT t k :: meTs r (k + (4 * t.count : Nat))
end
def costT (t : T) : Nat := 4 * t.count
theorem meTs_eq (l : List T) : ∀ k, meTs l k = mkL meT costT l k := by
  induction l with
  | nil => intro k; simp only [meTs, mkL]
  | cons t r ih => intro k; simp only [meTs, mkL, costT, ih]
theorem meT_eq (t : T) (k : Int) : meT t k = .mk k (k + 1) (k + 1 + 1) (mtxt (k + 1 + 1 + 1)) (mkL meT costT t.l (k + 1 + 1 + 1 + 1)) := by
  cases t with | mk a b c d l => rw [meT, meTs_eq]; rfl
theorem costT_eq (t : T) : costT t = 4 + cL' costT t.l := by
  cases t with | mk a b c d l =>
  simp only [costT, T.count, T.l]
  have : ∀ l : List T, cL' costT l = 4 * T.countL l := by
    intro l; induction l with
    | nil => rfl
    | cons t r ih => simp only [cL', T.countL, ih, costT]; omega
  rw [this]; omega
theorem costTL (l : List T) : cL' costT l = 4 * T.countL l := by
  induction l with
  | nil => rfl
  | cons t r ih => simp only [cL', T.countL, ih, costT]; omega
theorem countL_le_szL (l : List T) : T.countL l ≤ T.szL l := by
  have := T.countL_le_szL (.mk 0 0 0 ⟨#[]⟩ l)
  simp only [T.count, T.sz] at this
  have h : (⟨#[]⟩ : ByteArray).size = 0 := rfl
  omega
theorem costTL_le (l : List T) : cL' costT l ≤ 4 * T.szL l := by rw [costTL]; have := countL_le_szL l; omega
end Go.Proofs.YtfbodhfdomdkpaaGreatDoor
namespace Go.Proofs.YtfbodhfdomdkpaaGreatDoor
open Go.ChangeShapes Go.WideShapes Go.ChangeAt Go.RowKit Go.Joins
set_option linter.unusedVariables false
set_option maxRecDepth 100000
theorem info_Val : (Tryz.prog.info? 36).map (fun i => (i.zero, i.size, i.bytes)) = some (some (.agg #[.int .i64 0, .int .i64 0, .int .i64 0, .string ⟨#[]⟩, .slice none 0 0]), 5, 64) := by kernel_rfl
end Go.Proofs.YtfbodhfdomdkpaaGreatDoor
