/- Contracts and lemmas for the proofs of this seat: BytesF. No condition beyond those stated. -/
import Derived.Test.YtfbgmhjjdgglnaaRows
import Derived.WalkKit
import Derived.ProofKit
import Derived.OpenShut
import Derived.Handy
import Derived.Lib.Hide
import Derived.Lib.SmallJoins
import Derived.Deep.RegionHeld3
import Derived.Deep.QuietTactic
import Derived.BigQuiet
import Derived.Test.YtfbgmhjjdgglnaaBase
import Derived.Test.YtfbgmhjjdgglnaaGen
import Derived.Test.YtfbgmhjjdgglnaaKit
import Derived.Test.YtfbgmhjjdgglnaaOpenL
namespace Go.Proofs.Ytfbgmhjjdgglnaa
open Go.ChangeShapes Go.WideShapes Go.ChangeAt Go.RowKit Go.Joins
set_option linter.unusedVariables false
set_option maxRecDepth 100000
theorem U8.of_wf {n : Int} (h : (Lit.int .u8 n).wf = true) : U8 n := by
  unfold U8
  have := h
  simp [Lit.wf, IntKind.min, IntKind.max, IntKind.signed, IntKind.bits] at this
  omega
theorem open_lawBytes {H : Type} {enc : TypeId × Value → H} {w : World} {r : Reach} {b0 : Nat} {v : Value} {d : DataW H} {p : List MemPlace} (hok : Value.okWide Try.prog w r b0 25 v) (h : DataW.Trod enc Try.prog w 0 (fun _ => true) true 25 v d p) :
    ∃ (t : List Int) (a : Option Addr) (cap : Nat), v = .slice a t.length cap ∧ True ∧ ∀ B, (∀ x ∈ p, x.block < B) → Rd EByte 1 w B a cap t := by
  obtain ⟨a0, len, cap0, rfl⟩ := okWide_slice Try.underlying25 hok
  obtain ⟨fuel, hf⟩ := h
  obtain ⟨l, a, cap, F, hcs, hsl, hF⟩ := trod_sl (E := EByte) Try.underlying25 (n := 1) (by kernel_rfl) (by omega) (fun fuel cs x h => by
    obtain ⟨k, e0, -, w0⟩ := DataW.trod_int Try.underlying5 h
    refine ⟨k, [], by rw [e0]; rfl, fun bb o hc => ⟨rfl, ?_, U8.of_wf w0⟩, by simp⟩
    subst e0
    simpa using hc 0 (by omega)) fuel _ _ hf
  refine ⟨l, a, cap, ?_, trivial, fun B hB => ⟨F, hsl, fun f hf => ?_⟩⟩
  · simpa [Value.cells] using hcs
  · obtain ⟨q, hq, rfl⟩ := hF f hf
    exact hB q hq
theorem info_Byte : (Try.prog.info? 5).map (fun i => (i.zero, i.size, i.bytes)) = some (some (.int .u8 0), 1, 1) := by kernel_rfl
theorem toByteS_calls (l : List Int) (a : Option Addr) (cap : Nat) (B : Nat) (w : World) (hr : Rd EByte 1 w B a cap l) (hB : B ≤ w.heap.size) (hz : l.length ≤ 1048576) :
    Calls Try.prog 13 #[.slice a l.length cap] w fun e w' => ∃ a', e = .returned (.slice a' l.length l.length) ∧ Ow EByte 1 w' w.heap.size w'.heap.size a' l.length l ∧ Below w.heap.size w w' := by
  obtain ⟨hl1, hl2⟩ := hr.len
  have hmk := fun w => make_run Try.underlying25 info_Byte rfl l.length (by omega) (by omega) w
  go_enter Try.func13, Try.ntmps13
  go_wp2_with fail
  generalize hW : w.alloc (Obj.cells (madeCells #[Value.int IntKind.u8 0] l.length) 5) = W0
  have hBl : Below w.heap.size w W0 := by subst hW; go_grown
  have hBk : Blk W0 w.heap.size 5 (l.length * 1) := by subst hW; have := Blk.alloc w (madeCells #[Value.int IntKind.u8 0] l.length) 5; rw [size_madeCells] at this; simpa using this
  clear hW hmk
  go_loopw [4] (fun i wr => ∃ (j : Nat), j ≤ l.length ∧ i = .int .i64 j ∧ Fil EByte 1 wr w.heap.size 5 (l.length * 1) (l.take j) ∧ Below w.heap.size w wr) (fun i _ => l.length - (intOf i).toNat)
  case atStart => exact ⟨0, Nat.zero_le _, rfl, Fil.start hBk, hBl⟩
  case round =>
    obtain ⟨j, hj, rfl, hf, hb⟩ := hrel
    have hbs := hb.size
    by_cases hlt : j < l.length
    · obtain ⟨b, o, rfl, hbl, d0, hi⟩ := (hr.below EByte.loc hb hB).byte j hlt
      have hbk2 := hf.1
      have hfz := fun i => hbk2.frozen i
      obtain ⟨x0, hx0⟩ := hbk2.cell j (by omega)
      go_wp2_with fail
      go_roundw
      case rel =>
        refine ⟨j + 1, by omega, by go_num, ?_, ?_⟩
        · rw [take_snoc l j hlt]
          have hlj : j = (l.take j).length * 1 := by rw [List.length_take]; omega
          exact hf.step EByte.loc (hbk2.set_ j _) (fun f h1 h2 => heap_miss _ _ _ _ h1 _) (fun i hi => cell_miss _ _ _ _ (by omega) _) hlj (G := []) ⟨rfl, hbk2.hit j (by omega) _, hi⟩ (by simp) (by simp)
        · exact hb.trans ((below1s _ _ _ _))
      case measure => simp [intOf]; omega
    · have hjj : l.length = j := by omega
      have HJ := Lib.hid hjj; clear hjj
      go_wp2_with fail
      go_ret
      refine ⟨_, rfl, ?_, hb⟩
      have h := HJ.out
      have hf' := hf; rw [← h, List.take_length] at hf'
      exact hf'.done (Nat.le_refl _) (by unfold maxLen; omega)
theorem eqByteS_calls (l : List Int) (a a' : Option Addr) (cap cap' : Nat) (B : Nat) (w : World) (hr : Rd EByte 1 w B a cap l) (hr' : Rd EByte 1 w B a' cap' l) (hB : B ≤ w.heap.size) :
    Calls Try.prog 17 #[.slice a l.length cap, .slice a' l.length cap'] w fun e w' => e = .returned (.bool true) ∧ Below w.heap.size w w' := by
  obtain ⟨hl1, hl2⟩ := hr.len
  go_enter Try.func17, Try.ntmps17
  go_wp2_with fail
  go_loopw [5] (fun i wr => ∃ (j : Nat), j ≤ l.length ∧ i = .int .i64 j ∧ Below w.heap.size w wr) (fun i _ => l.length - (intOf i).toNat)
  case atStart => exact ⟨0, Nat.zero_le _, rfl, Below.refl _ _⟩
  case round =>
    obtain ⟨j, hj, rfl, hb⟩ := hrel
    by_cases hlt : j < l.length
    · obtain ⟨b, o, rfl, hbl, d0, di⟩ := (hr.below EByte.loc hb hB).byte j hlt
      obtain ⟨b', o', rfl, hbl', d0', di'⟩ := (hr'.below EByte.loc hb hB).byte j hlt
      go_wp2_with fail
      go_quiet (fail)
      go_wp2_with fail
      go_roundw
      case rel => exact ⟨j + 1, by omega, by go_num, hb.trans (below_drewN _ _ _)⟩
      case measure => simp [intOf]; omega
    · go_wp2_with fail
      go_ret
      exact ⟨rfl, hb⟩
end Go.Proofs.Ytfbgmhjjdgglnaa
