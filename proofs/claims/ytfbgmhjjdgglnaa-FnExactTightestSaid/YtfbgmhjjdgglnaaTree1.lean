/- Contracts and lemmas for the proofs of this seat: Tree1. No condition beyond those stated. -/
import Derived.Test.YtfbgmhjjdgglnaaRows
import Derived.WalkKit
import Derived.ProofKit
import Derived.OpenShut
import Derived.Handy
import Derived.Lib.Hide
import Derived.Lib.SmallJoins
import Derived.Deep.RegionHeld3
import Derived.Test.YtfbgmhjjdgglnaaBase
namespace Go.Proofs.Ytfbgmhjjdgglnaa
open Go.ChangeShapes Go.WideShapes Go.ChangeAt Go.RowKit Go.Joins
set_option linter.unusedVariables false
set_option maxRecDepth 100000
theorem spec_DeepOf : ∀ t : T, T.count t ≤ 4611686018427387904 → ∀ (a : Option Addr) (cap B : Nat) (w : World), R w B a cap t.l → B ≤ w.heap.size →
    Calls Try.prog 48 #[.agg #[.int .i64 t.k, .int .i64 t.n, .int .i64 t.x, .string t.s, .slice a t.l.length cap]] w fun e w' => e = .returned (.int .i64 (T.depth t)) ∧ Below w.heap.size w w' := by
  intro t
  induction t using T.ind with
  | h k0 n0 x0 s0 l0 ih =>
    intro hc a cap B w hr hBw
    simp only [T.k, T.n, T.x, T.s, T.l] at hr ⊢
    have IH := Lib.hid ih; clear ih
    obtain ⟨hl1, hl2⟩ := hr.len
    have HC := Lib.hid hc; clear hc
    go_enter Try.func48, Try.ntmps48
    go_wp2
    generalize hW : (w.alloc (Obj.cells #[Value.int IntKind.i64 k0, Value.int IntKind.i64 n0, Value.int IntKind.i64 x0, Value.string s0, Value.slice a l0.length cap] 32)) = W0
    have c4 : W0.cell? ⟨w.heap.size, 4, none⟩ = some (.slice a l0.length cap) := by subst hW; go_simp
    have hB : Below w.heap.size w W0 := by subst hW; go_grown
    have hN : w.heap.size + 1 = W0.heap.size := by subst hW; simp
    clear hW
    have HN := Lib.hid hN; clear hN
    have hR := hr.below hB hBw
    go_loopw [3, 4, 5] (fun m i _ wr => ∃ j : Nat, j ≤ l0.length ∧ i = .int .i64 j ∧ m = .int .i64 (T.depthL (l0.take j)) ∧ Below W0.heap.size W0 wr) (fun _ i _ _ => l0.length - (intOf i).toNat)
    case atStart => exact ⟨0, Nat.zero_le _, rfl, by simp [T.depthL], Below.refl _ _⟩
    case round =>
      obtain ⟨j, hj, rfl, rfl, hb⟩ := hrel
      have hc' : wr.cell? ⟨w.heap.size, 4, none⟩ = some (.slice a l0.length cap) := by rw [hb.cell (p := ⟨w.heap.size, 4, none⟩) (by have := HN.out; simp; omega)]; exact c4
      by_cases hlt : j < l0.length
      · have hR' := hR.below hb (by have := HN.out; omega)
        obtain ⟨b, o, a', cap', rfl, hbl, d0, d1, d2, d3, d4, hwf, hr'⟩ := hR'.get j hlt
        have HT := Lib.hid (T.depthL_take_succ l0 j hlt)
        go_wp2_with fail
        refine (IH.out l0[j] (List.getElem_mem hlt) (by have := HC.out; simp only [T.count] at this; have := T.count_get l0 j hlt; omega) a' cap' B _ hr' (by have := hb.size; have := HN.out; omega)).mono ?_
        rintro e w2 ⟨rfl, hb2⟩
        go_wp2_with fail
        all_goals go_roundw
        case rel => exact ⟨j + 1, by omega, by go_num, by rw [HT.out, Nat.max_eq_right (by omega)], hb.trans (hb2.mono hb.size)⟩
        case measure => simp [intOf]; omega
        case rel => exact ⟨j + 1, by omega, by go_num, by rw [HT.out, Nat.max_eq_left (by omega)], hb.trans (hb2.mono hb.size)⟩
        case measure => simp [intOf]; omega
      · have hjj : l0.length = j := by omega
        have hd : T.depthL (l0.take j) + 1 ≤ 4611686018427387904 := by
          have := HC.out; simp only [T.count] at this
          have := T.depthL_le_countL l0
          rw [← hjj, List.take_length]; omega
        have HJ := Lib.hid hjj; clear hjj
        go_wp2_with fail
        go_ret
        refine ⟨?_, hB.trans (hb.mono hB.size)⟩
        rw [← HJ.out, List.take_length]; simp [T.depth]
theorem impl_DeepOf : ∀ t : T, T.count t ≤ 4611686018427387904 → ∀ (a : Option Addr) (cap B : Nat) (w : World), R w B a cap t.l → B ≤ w.heap.size →
    Calls Try.prog 51 #[.agg #[.int .i64 t.k, .int .i64 t.n, .int .i64 t.x, .string t.s, .slice a t.l.length cap]] w fun e w' => e = .returned (.int .i64 (T.depth t)) ∧ Below w.heap.size w w' := by
  intro t
  induction t using T.ind with
  | h k0 n0 x0 s0 l0 ih =>
    intro hc a cap B w hr hBw
    simp only [T.k, T.n, T.x, T.s, T.l] at hr ⊢
    have IH := Lib.hid ih; clear ih
    obtain ⟨hl1, hl2⟩ := hr.len
    have HC := Lib.hid hc; clear hc
    go_enter Try.func51, Try.ntmps51
    go_wp2
    generalize hW : (w.alloc (Obj.cells #[Value.int IntKind.i64 k0, Value.int IntKind.i64 n0, Value.int IntKind.i64 x0, Value.string s0, Value.slice a l0.length cap] 32)) = W0
    have hB : Below w.heap.size w W0 := by subst hW; go_grown
    have hN : w.heap.size + 1 = W0.heap.size := by subst hW; simp
    clear hW
    have HN := Lib.hid hN; clear hN
    have hR := hr.below hB hBw
    go_loopw [3, 9, 5] (fun m i _ wr => ∃ j : Nat, j ≤ l0.length ∧ i = .int .i64 j ∧ m = .int .i64 (T.depthL (l0.take j)) ∧ Below W0.heap.size W0 wr) (fun _ i _ _ => l0.length - (intOf i).toNat)
    case atStart => exact ⟨0, Nat.zero_le _, rfl, by simp [T.depthL], Below.refl _ _⟩
    case round =>
      obtain ⟨j, hj, rfl, rfl, hb⟩ := hrel
      by_cases hlt : j < l0.length
      · have hR' := hR.below hb (by have := HN.out; omega)
        obtain ⟨b, o, a', cap', rfl, hbl, d0, d1, d2, d3, d4, hwf, hr'⟩ := hR'.get j hlt
        have HT := Lib.hid (T.depthL_take_succ l0 j hlt)
        go_wp2_with fail
        refine (IH.out l0[j] (List.getElem_mem hlt) (by have := HC.out; simp only [T.count] at this; have := T.count_get l0 j hlt; omega) a' cap' B _ (hr'.below (below1 _ _) (by have := hb.size; have := HN.out; omega)) (by have := hb.size; have := HN.out; simp; omega)).mono ?_
        rintro e w2 ⟨rfl, hb2⟩
        go_wp2_with fail
        all_goals go_roundw
        case rel => exact ⟨j + 1, by omega, by go_num, by rw [HT.out]; go_num, hb.trans (((Below.alloc (Below.refl _ _) (Nat.le_refl _) _).trans (hb2.mono (by simp))).mono hb.size)⟩
        case measure => simp [intOf]; omega
      · have hjj : l0.length = j := by omega
        have hd : T.depthL (l0.take j) + 1 ≤ 4611686018427387904 := by
          have := HC.out; simp only [T.count] at this
          have := T.depthL_le_countL l0
          rw [← hjj, List.take_length]; omega
        have HJ := Lib.hid hjj; clear hjj
        go_wp2_with fail
        go_ret
        refine ⟨?_, hB.trans (hb.mono hB.size)⟩
        rw [← HJ.out, List.take_length]; simp [T.depth]
theorem spec_CountOf : ∀ t : T, T.count t ≤ 4611686018427387904 → ∀ (a : Option Addr) (cap B : Nat) (w : World), R w B a cap t.l → B ≤ w.heap.size →
    Calls Try.prog 49 #[.agg #[.int .i64 t.k, .int .i64 t.n, .int .i64 t.x, .string t.s, .slice a t.l.length cap]] w fun e w' => e = .returned (.int .i64 (T.count t)) ∧ Below w.heap.size w w' := by
  intro t
  induction t using T.ind with
  | h k0 n0 x0 s0 l0 ih =>
    intro hc a cap B w hr hBw
    simp only [T.k, T.n, T.x, T.s, T.l] at hr ⊢
    have IH := Lib.hid ih; clear ih
    obtain ⟨hl1, hl2⟩ := hr.len
    have HC := Lib.hid hc; clear hc
    go_enter Try.func49, Try.ntmps49
    go_wp2
    generalize hW : (w.alloc (Obj.cells #[Value.int IntKind.i64 k0, Value.int IntKind.i64 n0, Value.int IntKind.i64 x0, Value.string s0, Value.slice a l0.length cap] 32)) = W0
    have c4 : W0.cell? ⟨w.heap.size, 4, none⟩ = some (.slice a l0.length cap) := by subst hW; go_simp
    have hB : Below w.heap.size w W0 := by subst hW; go_grown
    have hN : w.heap.size + 1 = W0.heap.size := by subst hW; simp
    clear hW
    have HN := Lib.hid hN; clear hN
    have hR := hr.below hB hBw
    go_loopw [3, 4] (fun m i wr => ∃ j : Nat, j ≤ l0.length ∧ i = .int .i64 j ∧ m = .int .i64 ((1 + T.countL (l0.take j) : Nat) : Int) ∧ Below W0.heap.size W0 wr) (fun _ i _ => l0.length - (intOf i).toNat)
    case atStart => exact ⟨0, Nat.zero_le _, rfl, by simp [T.countL], Below.refl _ _⟩
    case round =>
      obtain ⟨j, hj, rfl, rfl, hb⟩ := hrel
      have hc' : wr.cell? ⟨w.heap.size, 4, none⟩ = some (.slice a l0.length cap) := by rw [hb.cell (p := ⟨w.heap.size, 4, none⟩) (by have := HN.out; simp; omega)]; exact c4
      by_cases hlt : j < l0.length
      · have hR' := hR.below hb (by have := HN.out; omega)
        obtain ⟨b, o, a', cap', rfl, hbl, d0, d1, d2, d3, d4, hwf, hr'⟩ := hR'.get j hlt
        have HT := Lib.hid (T.countL_take_succ l0 j hlt)
        have hcb : T.countL (l0.take j) + T.count l0[j] + 1 ≤ 4611686018427387904 := by
          have := HC.out; simp only [T.count] at this
          have := T.countL_take_succ l0 j hlt
          have := T.countL_take_le l0 (j + 1)
          omega
        go_wp2_with fail
        refine (IH.out l0[j] (List.getElem_mem hlt) (by have := HC.out; simp only [T.count] at this; have := T.count_get l0 j hlt; omega) a' cap' B _ hr' (by have := hb.size; have := HN.out; omega)).mono ?_
        rintro e w2 ⟨rfl, hb2⟩
        go_wp2_with fail
        go_roundw
        case rel => exact ⟨j + 1, by omega, by go_num, by rw [HT.out]; go_num, hb.trans (hb2.mono hb.size)⟩
        case measure => simp [intOf]; omega
      · have hjj : l0.length = j := by omega
        have HJ := Lib.hid hjj; clear hjj
        go_wp2_with fail
        go_ret
        refine ⟨?_, hB.trans (hb.mono hB.size)⟩
        rw [← HJ.out, List.take_length]; simp [T.count]; omega
theorem impl_CountOf : ∀ t : T, T.count t ≤ 4611686018427387904 → ∀ (a : Option Addr) (cap B : Nat) (w : World), R w B a cap t.l → B ≤ w.heap.size →
    Calls Try.prog 52 #[.agg #[.int .i64 t.k, .int .i64 t.n, .int .i64 t.x, .string t.s, .slice a t.l.length cap]] w fun e w' => e = .returned (.int .i64 (T.count t)) ∧ Below w.heap.size w w' := by
  intro t
  induction t using T.ind with
  | h k0 n0 x0 s0 l0 ih =>
    intro hc a cap B w hr hBw
    simp only [T.k, T.n, T.x, T.s, T.l] at hr ⊢
    have IH := Lib.hid ih; clear ih
    obtain ⟨hl1, hl2⟩ := hr.len
    have HC := Lib.hid hc; clear hc
    go_enter Try.func52, Try.ntmps52
    go_wp2
    generalize hW : (w.alloc (Obj.cells #[Value.int IntKind.i64 k0, Value.int IntKind.i64 n0, Value.int IntKind.i64 x0, Value.string s0, Value.slice a l0.length cap] 32)) = W0
    have hB : Below w.heap.size w W0 := by subst hW; go_grown
    have hN : w.heap.size + 1 = W0.heap.size := by subst hW; simp
    clear hW
    have HN := Lib.hid hN; clear hN
    have hR := hr.below hB hBw
    go_loopw [3, 9, 5] (fun m i _ wr => ∃ j : Nat, j ≤ l0.length ∧ i = .int .i64 j ∧ m = .int .i64 ((1 + T.countL (l0.take j) : Nat) : Int) ∧ Below W0.heap.size W0 wr) (fun _ i _ _ => l0.length - (intOf i).toNat)
    case atStart => exact ⟨0, Nat.zero_le _, rfl, by simp [T.countL], Below.refl _ _⟩
    case round =>
      obtain ⟨j, hj, rfl, rfl, hb⟩ := hrel
      by_cases hlt : j < l0.length
      · have hR' := hR.below hb (by have := HN.out; omega)
        obtain ⟨b, o, a', cap', rfl, hbl, d0, d1, d2, d3, d4, hwf, hr'⟩ := hR'.get j hlt
        have HT := Lib.hid (T.countL_take_succ l0 j hlt)
        have hcb : T.countL (l0.take j) + T.count l0[j] + 1 ≤ 4611686018427387904 := by
          have := HC.out; simp only [T.count] at this
          have := T.countL_take_succ l0 j hlt
          have := T.countL_take_le l0 (j + 1)
          omega
        go_wp2_with fail
        refine (IH.out l0[j] (List.getElem_mem hlt) (by have := HC.out; simp only [T.count] at this; have := T.count_get l0 j hlt; omega) a' cap' B _ (hr'.below (below1 _ _) (by have := hb.size; have := HN.out; omega)) (by have := hb.size; have := HN.out; simp; omega)).mono ?_
        rintro e w2 ⟨rfl, hb2⟩
        go_wp2_with fail
        go_roundw
        case rel => exact ⟨j + 1, by omega, by go_num, by rw [HT.out]; go_num, hb.trans (((Below.alloc (Below.refl _ _) (Nat.le_refl _) _).trans (hb2.mono (by simp))).mono hb.size)⟩
        case measure => simp [intOf]; omega
      · have hjj : l0.length = j := by omega
        have HJ := Lib.hid hjj; clear hjj
        go_wp2_with fail
        go_ret
        refine ⟨?_, hB.trans (hb.mono hB.size)⟩
        rw [← HJ.out, List.take_length]; simp [T.count]; omega
def withinB (t : T) (d c : Int) : Bool := decide ((T.depth t : Int) ≤ d ∧ (T.count t : Int) ≤ c)
end Go.Proofs.Ytfbgmhjjdgglnaa
