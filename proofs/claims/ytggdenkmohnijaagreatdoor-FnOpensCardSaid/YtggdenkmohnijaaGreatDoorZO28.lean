/- Texts of this proof, merged: RdrE, Rdr7, Rdr8, Rdr49, RdrI, PkL. No condition beyond what each theorem states. -/
import Derived.Test.YtggdenkmohnijaaGreatDoorZO23
set_option linter.unusedSimpArgs false
set_option linter.unnecessarySimpa false
namespace Go.Proofs.YtggdenkmohnijaaGreatDoor
open Go.ChangeShapes Go.WideShapes Go.ChangeAt Go.RowKit Go.Joins
set_option linter.unusedVariables false
set_option maxRecDepth 100000
theorem laws_same (p : List Int) (a a' : Option Addr) (cap cap' B : Nat) (w : World) (hr : Rd EByte 1 w B a cap p) (hr' : Rd EByte 1 w B a' cap' p) (hB : B ≤ w.heap.size) :
  Calls Tryz.prog 17 #[.slice a p.length cap, .slice a' p.length cap'] w fun e w' => e = .returned (.bool true) ∧ Below w.heap.size w w' := by
 obtain ⟨hl1, hl2⟩ := hr.len
 obtain ⟨hm1, hm2⟩ := hr'.len
 have HR := Lib.hid hr; have HR' := Lib.hid hr'; clear hr hr'
 go_enter Tryz.func17, Tryz.ntmps17
 go_wp2_with fail
 go_loopw [5] (fun i wr => ∃ (j : Nat), j ≤ p.length ∧ i = .int .i64 j ∧ Below w.heap.size w wr) (fun i _ => p.length - (intOf i).toNat)
 case atStart => exact ⟨0, Nat.zero_le _, rfl, Below.refl _ _⟩
 case round =>
  obtain ⟨j, hj, rfl, hb⟩ := hrel
  have hbs := hb.size
  by_cases hlt : j < p.length
  ·have hltz : (j : Int) < (p.length : Int) := by omega
   obtain ⟨b, o, rfl, hbl, d0, _, _⟩ := (HR.out.below EByte.loc hb hB).byte j hlt
   obtain ⟨b', o', rfl, hbl', d0', _, _⟩ := (HR'.out.below EByte.loc hb hB).byte j hlt
   have l1 : b < wr.heap.size := by omega
   have l2 : b' < wr.heap.size := by omega
   generalize p[j] = x at *
   have hxx : (x != x) = false := by simp
   go_wp2_with fail
   try go_quiet (fail)
   go_wp2_with fail
   go_roundw
   case rel => exact ⟨j + 1, by omega, by go_num, by first | exact hb | exact hb.drew | exact hb.trans (below_drewN _ _ _)⟩
   case measure => simp [intOf]; omega
  ·have hltz : ¬ (j : Int) < (p.length : Int) := by omega
   go_wp2_with fail
   go_ret
   exact ⟨rfl, hb⟩
theorem Is.dr {w : World} {g : Nat} {e : TypeId} {cs : Array Value} (h : Is w g e cs) : Is w.drew g e cs := h.agree rfl
theorem Env.more {B B' : Nat} {w : World} (h : Env B w) (hB : B ≤ B') : Env B' w := ⟨fun v hv => h.1 v (hv.mono hB), fun v hv => h.2 v (hv.mono hB)⟩
def GetO (n : Nat) (w : World) (r : Except Int (T × Nat)) (e : Ending) (w' : World) : Prop :=
 (∃ t u a' cap', r = .ok (t, u) ∧ e = .returned (.tuple #[.agg (cV t a' cap'), .int .i64 (u : Nat), .int .i64 0]) ∧ Wf t ∧ u ≤ n ∧ Rn TV 5 w' w.heap.size a' cap' t.l ∧ Below w.heap.size w w') ∨
 (∃ c, r = .error c ∧ (c = 1 ∨ c = 2) ∧ e = .returned (.tuple #[.agg zV, .int .i64 0, .int .i64 c]) ∧ Below w.heap.size w w')
end Go.Proofs.YtggdenkmohnijaaGreatDoor
