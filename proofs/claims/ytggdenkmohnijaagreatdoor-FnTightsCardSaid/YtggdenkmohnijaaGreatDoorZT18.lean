/- Texts of this proof, merged: MrkG, RdrA. No condition beyond what each theorem states. -/
import Derived.Test.YtggdenkmohnijaaGreatDoorZT17
set_option linter.unusedSimpArgs false
set_option linter.unnecessarySimpa false
namespace Go.Proofs.YtggdenkmohnijaaGreatDoor
open Go.ChangeShapes Go.WideShapes Go.ChangeAt Go.RowKit Go.Joins
set_option linter.unusedVariables false
set_option maxRecDepth 100000
theorem tkH {P : Program} {ops : Array Oper} {Q : Exit → Act → World → Prop} {md : Region.Mode} {S : World → Prop} {i : Nat} {oi : Oper} {v : Value} {fuel : Nat} {listed : Array Bool} {a : Act} {w : World} (hi : ops[i]? = some oi)
    (hy : ∀ w, S w → (execOp a.eval oi).run P w = .ok (.value v) w) (h : wpAnyH P md ops Q S fuel (listed.setIfInBounds i true) (a.put oi.dst v) w)
    (hs : Region.noSelect ops = true := by kernel_rfl) (hf : Region.free md ops listed i = true := by kernel_rfl) (hr : (Region.ready md ops listed).contains i = true := by kernel_rfl) (hw : Region.wanted oi (yielded ops a.tmps) = true := by rfl)
    (hQ : ∀ c a w, Q (.panic c) (a.put oi.dst v) w → Q (.panic c) a w := by exact fun _ _ _ h => h) (hS : S w := by assumption) : wpAnyH P md ops Q S (fuel + 1) listed a w :=
  wpAnyH_take hi hs hf hr hQ (Or.inl ⟨hw, hy⟩) hS h
def Pr (w : World) (A : Nat) (a : Option Addr) (cap : Nat) (bs : List Int) (p c : Int) : Prop := Is w A 85 #[.slice a bs.length cap, .int .i64 p, .int .i64 c] ∧ Rd EByte 1 w A a cap bs
theorem Pr.below {w w' : World} {A n : Nat} {a : Option Addr} {cap : Nat} {bs : List Int} {p c : Int} (h : Pr w A a cap bs p c) (hb : Below n w w') (hn : A < n) : Pr w' A a cap bs p c := ⟨h.1.below hb hn, h.2.below EByte.loc hb (Nat.le_of_lt hn)⟩
theorem Pr.lt {w : World} {A : Nat} {a : Option Addr} {cap : Nat} {bs : List Int} {p c : Int} (h : Pr w A a cap bs p c) : A < w.heap.size := h.1.lt
theorem Pr.at {w : World} {A : Nat} {a : Option Addr} {cap : Nat} {bs : List Int} {p c : Int} (h : Pr w A a cap bs p c) (q : Int) : Pr (w.setCell ⟨A, 1, none⟩ (.int .i64 q)) A a cap bs q c :=
  ⟨h.1.set 1 _, h.2.below EByte.loc ((Below.refl A w).setCell (p := ⟨A, 1, none⟩) (Nat.le_refl _) _) (Nat.le_refl _)⟩
theorem Pr.code {w : World} {A : Nat} {a : Option Addr} {cap : Nat} {bs : List Int} {p c : Int} (h : Pr w A a cap bs p c) (q : Int) : Pr (w.setCell ⟨A, 2, none⟩ (.int .i64 q)) A a cap bs p q :=
  ⟨h.1.set 2 _, h.2.below EByte.loc ((Below.refl A w).setCell (p := ⟨A, 2, none⟩) (Nat.le_refl _) _) (Nat.le_refl _)⟩
theorem Pr.miss {w : World} {A : Nat} {a : Option Addr} {cap : Nat} {bs : List Int} {p c : Int} (h : Pr w A a cap bs p c) (g i : Nat) (hg : A < g) (v : Value) : Pr (w.setCell ⟨g, i, none⟩ v) A a cap bs p c :=
  h.below ((Below.refl g w).setCell (p := ⟨g, i, none⟩) (Nat.le_refl _) _) hg
theorem wfK2 {n x : Int} (h1 : I64 n) (h2 : I64 x) : Wf (.mk 4 n x ⟨#[]⟩ []) := ⟨by show I64 4; exact ⟨by decide, by decide⟩, h1, h2, by show (⟨#[]⟩ : ByteArray).size ≤ maxLen; exact Nat.zero_le _⟩
theorem conv_rd (w : World) (B : Nat) (b o cap : Nat) (l : List Int) (h : Rd EByte 1 w B (some ⟨b, o, none⟩) cap l) : (convert 22 9 (.slice (some ⟨b, o, none⟩) l.length cap)).run Tryz.prog w = .ok (.string (strOfNums l)) w :=
  run_convert_bytes_arg w 22 5 Tryz.underlying22 Tryz.underlying5 b o l.length cap l rfl (fun i hi => by
    obtain ⟨b', o', hae, _, hc, _⟩ := h.byte i hi
    cases hae
    rw [hc, List.getD_eq_getElem?_getD, List.getElem?_eq_getElem hi]; rfl) 9 Tryz.underlying9
end Go.Proofs.YtggdenkmohnijaaGreatDoor
