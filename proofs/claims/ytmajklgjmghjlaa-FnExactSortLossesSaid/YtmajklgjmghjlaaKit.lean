/- Contracts and lemmas for the proofs of this seat: Kit. No condition beyond those stated. -/
import Derived.Test.YtmajklgjmghjlaaRows
import Derived.WalkKit
import Derived.ProofKit
import Derived.OpenShut
import Derived.Handy
import Derived.Lib.Hide
import Derived.Lib.SmallJoins
import Derived.Test.YtmajklgjmghjlaaBase
import Derived.Test.YtmajklgjmghjlaaGen
namespace Go.Proofs.Ytmajklgjmghjlaa
open Go.ChangeShapes Go.WideShapes Go.ChangeAt Go.RowKit Go.Joins
set_option linter.unusedVariables false
set_option maxRecDepth 100000
abbrev cL (x : Lo) (a : Option Addr) (cap : Nat) : Array Value := #[Value.int IntKind.i64 x.1, Value.slice a x.2.length cap]
theorem R.fwd {w w' : World} {a : Option Addr} {cap : Nat} {l : List T} (h : R w w.heap.size a cap l) (hb : Below w.heap.size w w') : R w' w'.heap.size a cap l := (h.below hb (Nat.le_refl _)).more hb.size
theorem Rd.fwd {α : Type} {E : World → Nat → Nat → α → List Nat → Prop} {n : Nat} (hE : Loc E n) {w w' : World} {a : Option Addr} {cap : Nat} {l : List α} (h : Rd E n w w.heap.size a cap l) (hb : Below w.heap.size w w') : Rd E n w' w'.heap.size a cap l := (h.below hE hb (Nat.le_refl _)).more hb.size
/-- Outside the blocks from lo up to hi nothing has changed. -/
def Beside (lo hi : Nat) (w w' : World) : Prop := Below lo w w' ∧ ∀ f, hi ≤ f → f < w.heap.size → w'.heap[f]? = w.heap[f]?
theorem Beside.refl (lo hi : Nat) (w : World) : Beside lo hi w w := ⟨Below.refl _ _, fun _ _ _ => rfl⟩
theorem Beside.trans {lo hi : Nat} {w w1 w2 : World} (h : Beside lo hi w w1) (h2 : Beside lo hi w1 w2) : Beside lo hi w w2 :=
  ⟨h.1.trans h2.1, fun f hf hl => (h2.2 f hf (Nat.lt_of_lt_of_le hl h.1.size)).trans (h.2 f hf hl)⟩
theorem Beside.more {lo hi lo' hi' : Nat} {w w' : World} (h : Beside lo hi w w') (h1 : lo' ≤ lo) (h2 : hi ≤ hi') : Beside lo' hi' w w' := ⟨h.1.mono h1, fun f hf => h.2 f (by omega)⟩
theorem Beside.of_below {lo hi n : Nat} {w w' : World} (h : Below n w w') (hn : w.heap.size ≤ n) (hl : lo ≤ n) : Beside lo hi w w' := ⟨h.mono hl, fun f _ hf => h.block f (by omega)⟩
theorem Is.agree {w w' : World} {g : Nat} {e : TypeId} {cs : Array Value} (h : Is w g e cs) (hg : w'.heap[g]? = w.heap[g]?) : Is w' g e cs := hg.trans h
theorem Is.beside {w w' : World} {g lo hi : Nat} {e : TypeId} {cs : Array Value} (h : Is w g e cs) (hb : Beside lo hi w w') (hg : g < lo ∨ hi ≤ g) : Is w' g e cs := by
  rcases hg with hg | hg
  · exact h.below hb.1 hg
  · exact h.agree (hb.2 g hg h.lt)
theorem Ow.beside {α : Type} {E : World → Nat → Nat → α → List Nat → Prop} {n : Nat} (hE : Loc E n) {w w' : World} {lo hi lo' hi' cap : Nat} {a : Option Addr} {l : List α} (h : Ow E n w lo hi a cap l) (hb : Beside lo' hi' w w') (hg : hi ≤ lo' ∨ hi' ≤ lo) : Ow E n w' lo hi a cap l := by
  rcases hg with hg | hg
  · exact h.below hE hb.1 hg
  · obtain ⟨F, h1, h2, h3⟩ := h
    have hF : ∀ f ∈ F, w'.heap[f]? = w.heap[f]? := fun f hf => hb.2 f (by have := (h3 f hf).1; omega) (h3 f hf).2.2.lt
    exact ⟨F, h1.agree hE hF, h2, fun f hf => ⟨(h3 f hf).1, (h3 f hf).2.1, (h3 f hf).2.2.agree (hF f hf)⟩⟩
theorem Own.beside {w w' : World} {lo hi lo' hi' cap : Nat} {a : Option Addr} {l : List T} (h : Own w lo hi a cap l) (hb : Beside lo' hi' w w') (hg : hi ≤ lo' ∨ hi' ≤ lo) : Own w' lo hi a cap l := by
  rcases hg with hg | hg
  · exact h.below hb.1 hg
  · obtain ⟨F, h1, h2, h3⟩ := h
    have hF : ∀ f ∈ F, w'.heap[f]? = w.heap[f]? := fun f hf => hb.2 f (by have := (h3 f hf).1; omega) (h3 f hf).2.2.lt
    exact ⟨F, h1.agree hF, h2, fun f hf => ⟨(h3 f hf).1, (h3 f hf).2.1, (h3 f hf).2.2.agree (hF f hf)⟩⟩
def EInt (w : World) (b o : Nat) (x : Int) (F : List Nat) : Prop := F = [] ∧ w.cell? ⟨b, o, none⟩ = some (.int .i64 x) ∧ I64 x
theorem EInt.loc : Loc EInt 1 := by
  intro x w w' b o F h hc _
  obtain ⟨h0, h1, h2⟩ := h
  exact ⟨h0, by rw [hc _ (by omega) (by omega)]; exact h1, h2⟩
theorem Rd.int {w : World} {B : Nat} {a : Option Addr} {cap : Nat} {l : List Int} (h : Rd EInt 1 w B a cap l) (i : Nat) (hi : i < l.length) :
    ∃ b o, a = some ⟨b, o, none⟩ ∧ b < B ∧ w.cell? ⟨b, o + i, none⟩ = some (.int .i64 l[i]) ∧ I64 l[i] := by
  obtain ⟨b, o, F, ha, hb, ⟨_, h1, h2⟩, _⟩ := h.get i hi
  exact ⟨b, o, ha, hb, by simpa using h1, h2⟩
/-- A byte, as the number that Go's uint8 has. -/
def U8 (n : Int) : Prop := 0 ≤ n ∧ n ≤ 255
def EByte (w : World) (b o : Nat) (x : Int) (F : List Nat) : Prop := F = [] ∧ w.cell? ⟨b, o, none⟩ = some (.int .u8 x) ∧ U8 x
theorem EByte.loc : Loc EByte 1 := by
  intro x w w' b o F h hc _
  obtain ⟨h0, h1, h2⟩ := h
  exact ⟨h0, by rw [hc _ (by omega) (by omega)]; exact h1, h2⟩
theorem Rd.byte {w : World} {B : Nat} {a : Option Addr} {cap : Nat} {l : List Int} (h : Rd EByte 1 w B a cap l) (i : Nat) (hi : i < l.length) :
    ∃ b o, a = some ⟨b, o, none⟩ ∧ b < B ∧ w.cell? ⟨b, o + i, none⟩ = some (.int .u8 l[i]) ∧ U8 l[i] := by
  obtain ⟨b, o, F, ha, hb, ⟨_, h1, h2⟩, _⟩ := h.get i hi
  exact ⟨b, o, ha, hb, by simpa using h1, h2⟩
end Go.Proofs.Ytmajklgjmghjlaa
