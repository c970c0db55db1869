/- Contracts and lemmas for the proofs of this seat: Tree1. No condition beyond those stated. -/
import Derived.Test.YtfpnpnbiofijaabRows
import Derived.WalkKit
import Derived.ProofKit
import Derived.OpenShut
import Derived.Handy
import Derived.Lib.Hide
import Derived.Lib.SmallJoins
import Derived.Deep.RegionHeld3
import Derived.Test.YtfpnpnbiofijaabBase
namespace Go.Proofs.Ytfpnpnbiofijaab
open Go.ChangeShapes Go.WideShapes Go.ChangeAt Go.RowKit Go.Joins
set_option linter.unusedVariables false
theorem spec_DeepOf : ∀ t : T, T.count t ≤ 4611686018427387904 → ∀ (a : Option Addr) (cap B : Nat) (w : World), R w B a cap t.l → B ≤ w.heap.size →
    Calls Try.prog 29 #[.agg #[.int .i64 t.k, .int .i64 t.n, .int .i64 t.x, .string t.s, .slice a t.l.length cap]] w fun e w' => e = .returned (.int .i64 (T.depth t)) ∧ Below w.heap.size w w' := by
  intro t
  induction t using T.ind with
  | h k0 n0 x0 s0 l0 ih =>
    intro hc a cap B w hr hBw
    simp only [T.k, T.n, T.x, T.s, T.l] at hr ⊢
    have IH := Lib.hid ih; clear ih
    obtain ⟨hl1, hl2⟩ := hr.len
    have HC := Lib.hid hc; clear hc
    go_enter Try.func29, Try.ntmps29
    go_wp2
    generalize hW : (w.alloc (Obj.cells #[Value.int IntKind.i64 k0, Value.int IntKind.i64 n0, Value.int IntKind.i64 x0, Value.string s0, Value.slice a l0.length cap] 35)) = W0
    have c4 : W0.cell? ⟨w.heap.size, 4, none⟩ = some (.slice a l0.length cap) := by subst hW; go_simp
    have hB : Below w.heap.size w W0 := by subst hW; go_grown
    have hN : w.heap.size + 1 = W0.heap.size := by subst hW; simp
    clear hW
    have HN := Lib.hid hN; clear hN
    have hR := hr.below hB hBw
    go_loopw [3, 4, 5] (fun m i _ wr => ∃ j : Nat, j ≤ l0.length ∧ i = .int .i64 j ∧ m = .int .i64 (T.depthL (l0.take j)) ∧ Below W0.heap.size W0 wr) (fun _ i _ _ => l0.length - (intOf i).toNat)
    case atStart => exact ⟨0, Nat.zero_le _, rfl, by simp [T.depthL], Below.refl _ _⟩
    case round =>
      obtain ⟨j, hj, rfl, rfl, hb⟩ := hrel
      have hc' : wr.cell? ⟨w.heap.size, 4, none⟩ = some (.slice a l0.length cap) := by rw [hb.cell (p := ⟨w.heap.size, 4, none⟩) (by have := HN.out; simp; omega)]; exact c4
      by_cases hlt : j < l0.length
      · have hR' := hR.below hb (by have := HN.out; omega)
        obtain ⟨b, o, a', cap', rfl, hbl, d0, d1, d2, d3, d4, hwf, hr'⟩ := hR'.get j hlt
        have HT := Lib.hid (T.depthL_take_succ l0 j hlt)
        go_wp2_with fail
        refine (IH.out l0[j] (List.getElem_mem hlt) (by have := HC.out; simp only [T.count] at this; have := T.count_get l0 j hlt; omega) a' cap' B _ hr' (by have := hb.size; have := HN.out; omega)).mono ?_
        rintro e w2 ⟨rfl, hb2⟩
        go_wp2_with fail
        all_goals go_roundw
        case rel => exact ⟨j + 1, by omega, by go_num, by rw [HT.out, Nat.max_eq_right (by omega)], hb.trans (hb2.mono hb.size)⟩
        case measure => simp [intOf]; omega
        case rel => exact ⟨j + 1, by omega, by go_num, by rw [HT.out, Nat.max_eq_left (by omega)], hb.trans (hb2.mono hb.size)⟩
        case measure => simp [intOf]; omega
      · have hjj : l0.length = j := by omega
        have hd : T.depthL (l0.take j) + 1 ≤ 4611686018427387904 := by
          have := HC.out; simp only [T.count] at this
          have := T.depthL_le_countL l0
          rw [← hjj, List.take_length]; omega
        have HJ := Lib.hid hjj; clear hjj
        go_wp2_with fail
        go_ret
        refine ⟨?_, hB.trans (hb.mono hB.size)⟩
        rw [← HJ.out, List.take_length]; simp [T.depth]
theorem impl_DeepOf : ∀ t : T, T.count t ≤ 4611686018427387904 → ∀ (a : Option Addr) (cap B : Nat) (w : World), R w B a cap t.l → B ≤ w.heap.size →
    Calls Try.prog 32 #[.agg #[.int .i64 t.k, .int .i64 t.n, .int .i64 t.x, .string t.s, .slice a t.l.length cap]] w fun e w' => e = .returned (.int .i64 (T.depth t)) ∧ Below w.heap.size w w' := by
  intro t
  induction t using T.ind with
  | h k0 n0 x0 s0 l0 ih =>
    intro hc a cap B w hr hBw
    simp only [T.k, T.n, T.x, T.s, T.l] at hr ⊢
    have IH := Lib.hid ih; clear ih
    obtain ⟨hl1, hl2⟩ := hr.len
    have HC := Lib.hid hc; clear hc
    go_enter Try.func32, Try.ntmps32
    go_wp2
    generalize hW : (w.alloc (Obj.cells #[Value.int IntKind.i64 k0, Value.int IntKind.i64 n0, Value.int IntKind.i64 x0, Value.string s0, Value.slice a l0.length cap] 35)) = W0
    have hB : Below w.heap.size w W0 := by subst hW; go_grown
    have hN : w.heap.size + 1 = W0.heap.size := by subst hW; simp
    clear hW
    have HN := Lib.hid hN; clear hN
    have hR := hr.below hB hBw
    go_loopw [3, 9, 5] (fun m i _ wr => ∃ j : Nat, j ≤ l0.length ∧ i = .int .i64 j ∧ m = .int .i64 (T.depthL (l0.take j)) ∧ Below W0.heap.size W0 wr) (fun _ i _ _ => l0.length - (intOf i).toNat)
    case atStart => exact ⟨0, Nat.zero_le _, rfl, by simp [T.depthL], Below.refl _ _⟩
    case round =>
      obtain ⟨j, hj, rfl, rfl, hb⟩ := hrel
      by_cases hlt : j < l0.length
      · have hR' := hR.below hb (by have := HN.out; omega)
        obtain ⟨b, o, a', cap', rfl, hbl, d0, d1, d2, d3, d4, hwf, hr'⟩ := hR'.get j hlt
        have HT := Lib.hid (T.depthL_take_succ l0 j hlt)
        go_wp2_with fail
        refine (IH.out l0[j] (List.getElem_mem hlt) (by have := HC.out; simp only [T.count] at this; have := T.count_get l0 j hlt; omega) a' cap' B _ (hr'.below (below1 _ _) (by have := hb.size; have := HN.out; omega)) (by have := hb.size; have := HN.out; simp; omega)).mono ?_
        rintro e w2 ⟨rfl, hb2⟩
        go_wp2_with fail
        all_goals go_roundw
        case rel => exact ⟨j + 1, by omega, by go_num, by rw [HT.out]; go_num, hb.trans (((Below.alloc (Below.refl _ _) (Nat.le_refl _) _).trans (hb2.mono (by simp))).mono hb.size)⟩
        case measure => simp [intOf]; omega
      · have hjj : l0.length = j := by omega
        have hd : T.depthL (l0.take j) + 1 ≤ 4611686018427387904 := by
          have := HC.out; simp only [T.count] at this
          have := T.depthL_le_countL l0
          rw [← hjj, List.take_length]; omega
        have HJ := Lib.hid hjj; clear hjj
        go_wp2_with fail
        go_ret
        refine ⟨?_, hB.trans (hb.mono hB.size)⟩
        rw [← HJ.out, List.take_length]; simp [T.depth]
theorem spec_CountOf : ∀ t : T, T.count t ≤ 4611686018427387904 → ∀ (a : Option Addr) (cap B : Nat) (w : World), R w B a cap t.l → B ≤ w.heap.size →
    Calls Try.prog 30 #[.agg #[.int .i64 t.k, .int .i64 t.n, .int .i64 t.x, .string t.s, .slice a t.l.length cap]] w fun e w' => e = .returned (.int .i64 (T.count t)) ∧ Below w.heap.size w w' := by
  intro t
  induction t using T.ind with
  | h k0 n0 x0 s0 l0 ih =>
    intro hc a cap B w hr hBw
    simp only [T.k, T.n, T.x, T.s, T.l] at hr ⊢
    have IH := Lib.hid ih; clear ih
    obtain ⟨hl1, hl2⟩ := hr.len
    have HC := Lib.hid hc; clear hc
    go_enter Try.func30, Try.ntmps30
    go_wp2
    generalize hW : (w.alloc (Obj.cells #[Value.int IntKind.i64 k0, Value.int IntKind.i64 n0, Value.int IntKind.i64 x0, Value.string s0, Value.slice a l0.length cap] 35)) = W0
    have c4 : W0.cell? ⟨w.heap.size, 4, none⟩ = some (.slice a l0.length cap) := by subst hW; go_simp
    have hB : Below w.heap.size w W0 := by subst hW; go_grown
    have hN : w.heap.size + 1 = W0.heap.size := by subst hW; simp
    clear hW
    have HN := Lib.hid hN; clear hN
    have hR := hr.below hB hBw
    go_loopw [3, 4] (fun m i wr => ∃ j : Nat, j ≤ l0.length ∧ i = .int .i64 j ∧ m = .int .i64 ((1 + T.countL (l0.take j) : Nat) : Int) ∧ Below W0.heap.size W0 wr) (fun _ i _ => l0.length - (intOf i).toNat)
    case atStart => exact ⟨0, Nat.zero_le _, rfl, by simp [T.countL], Below.refl _ _⟩
    case round =>
      obtain ⟨j, hj, rfl, rfl, hb⟩ := hrel
      have hc' : wr.cell? ⟨w.heap.size, 4, none⟩ = some (.slice a l0.length cap) := by rw [hb.cell (p := ⟨w.heap.size, 4, none⟩) (by have := HN.out; simp; omega)]; exact c4
      by_cases hlt : j < l0.length
      · have hR' := hR.below hb (by have := HN.out; omega)
        obtain ⟨b, o, a', cap', rfl, hbl, d0, d1, d2, d3, d4, hwf, hr'⟩ := hR'.get j hlt
        have HT := Lib.hid (T.countL_take_succ l0 j hlt)
        have hcb : T.countL (l0.take j) + T.count l0[j] + 1 ≤ 4611686018427387904 := by
          have := HC.out; simp only [T.count] at this
          have := T.countL_take_succ l0 j hlt
          have := T.countL_take_le l0 (j + 1)
          omega
        go_wp2_with fail
        refine (IH.out l0[j] (List.getElem_mem hlt) (by have := HC.out; simp only [T.count] at this; have := T.count_get l0 j hlt; omega) a' cap' B _ hr' (by have := hb.size; have := HN.out; omega)).mono ?_
        rintro e w2 ⟨rfl, hb2⟩
        go_wp2_with fail
        go_roundw
        case rel => exact ⟨j + 1, by omega, by go_num, by rw [HT.out]; go_num, hb.trans (hb2.mono hb.size)⟩
        case measure => simp [intOf]; omega
      · have hjj : l0.length = j := by omega
        have HJ := Lib.hid hjj; clear hjj
        go_wp2_with fail
        go_ret
        refine ⟨?_, hB.trans (hb.mono hB.size)⟩
        rw [← HJ.out, List.take_length]; simp [T.count]; omega
theorem impl_CountOf : ∀ t : T, T.count t ≤ 4611686018427387904 → ∀ (a : Option Addr) (cap B : Nat) (w : World), R w B a cap t.l → B ≤ w.heap.size →
    Calls Try.prog 33 #[.agg #[.int .i64 t.k, .int .i64 t.n, .int .i64 t.x, .string t.s, .slice a t.l.length cap]] w fun e w' => e = .returned (.int .i64 (T.count t)) ∧ Below w.heap.size w w' := by
  intro t
  induction t using T.ind with
  | h k0 n0 x0 s0 l0 ih =>
    intro hc a cap B w hr hBw
    simp only [T.k, T.n, T.x, T.s, T.l] at hr ⊢
    have IH := Lib.hid ih; clear ih
    obtain ⟨hl1, hl2⟩ := hr.len
    have HC := Lib.hid hc; clear hc
    go_enter Try.func33, Try.ntmps33
    go_wp2
    generalize hW : (w.alloc (Obj.cells #[Value.int IntKind.i64 k0, Value.int IntKind.i64 n0, Value.int IntKind.i64 x0, Value.string s0, Value.slice a l0.length cap] 35)) = W0
    have hB : Below w.heap.size w W0 := by subst hW; go_grown
    have hN : w.heap.size + 1 = W0.heap.size := by subst hW; simp
    clear hW
    have HN := Lib.hid hN; clear hN
    have hR := hr.below hB hBw
    go_loopw [3, 9, 5] (fun m i _ wr => ∃ j : Nat, j ≤ l0.length ∧ i = .int .i64 j ∧ m = .int .i64 ((1 + T.countL (l0.take j) : Nat) : Int) ∧ Below W0.heap.size W0 wr) (fun _ i _ _ => l0.length - (intOf i).toNat)
    case atStart => exact ⟨0, Nat.zero_le _, rfl, by simp [T.countL], Below.refl _ _⟩
    case round =>
      obtain ⟨j, hj, rfl, rfl, hb⟩ := hrel
      by_cases hlt : j < l0.length
      · have hR' := hR.below hb (by have := HN.out; omega)
        obtain ⟨b, o, a', cap', rfl, hbl, d0, d1, d2, d3, d4, hwf, hr'⟩ := hR'.get j hlt
        have HT := Lib.hid (T.countL_take_succ l0 j hlt)
        have hcb : T.countL (l0.take j) + T.count l0[j] + 1 ≤ 4611686018427387904 := by
          have := HC.out; simp only [T.count] at this
          have := T.countL_take_succ l0 j hlt
          have := T.countL_take_le l0 (j + 1)
          omega
        go_wp2_with fail
        refine (IH.out l0[j] (List.getElem_mem hlt) (by have := HC.out; simp only [T.count] at this; have := T.count_get l0 j hlt; omega) a' cap' B _ (hr'.below (below1 _ _) (by have := hb.size; have := HN.out; omega)) (by have := hb.size; have := HN.out; simp; omega)).mono ?_
        rintro e w2 ⟨rfl, hb2⟩
        go_wp2_with fail
        go_roundw
        case rel => exact ⟨j + 1, by omega, by go_num, by rw [HT.out]; go_num, hb.trans (((Below.alloc (Below.refl _ _) (Nat.le_refl _) _).trans (hb2.mono (by simp))).mono hb.size)⟩
        case measure => simp [intOf]; omega
      · have hjj : l0.length = j := by omega
        have HJ := Lib.hid hjj; clear hjj
        go_wp2_with fail
        go_ret
        refine ⟨?_, hB.trans (hb.mono hB.size)⟩
        rw [← HJ.out, List.take_length]; simp [T.count]; omega
def withinB (t : T) (d c : Int) : Bool := decide ((T.depth t : Int) ≤ d ∧ (T.count t : Int) ≤ c)
theorem spec_Within (t : T) (hc : T.count t ≤ 4611686018427387904) (a : Option Addr) (cap B : Nat) (d b c : Int) (w : World) (hr : R w B a cap t.l) (hBw : B ≤ w.heap.size) :
    Calls Try.prog 15 #[.agg #[.int .i64 t.k, .int .i64 t.n, .int .i64 t.x, .string t.s, .slice a t.l.length cap], .agg #[.int .i64 d, .int .i64 b, .int .i64 c]] w fun e w' => e = .returned (.bool (withinB t d c)) ∧ Below w.heap.size w w' := by
  have h1 := fun (w1 : World) (h : Below w.heap.size w w1) => spec_DeepOf t hc a cap B w1 (hr.below h hBw) (by have := h.size; omega)
  have h2 := fun (w1 : World) (h : Below w.heap.size w w1) => spec_CountOf t hc a cap B w1 (hr.below h hBw) (by have := h.size; omega)
  have H1 := Lib.hid h1; clear h1
  have H2 := Lib.hid h2; clear h2
  have hd0 : Hid (withinB t d c = decide ((T.depth t : Int) ≤ d ∧ (T.count t : Int) ≤ c)) := rfl
  have H3 := Lib.hid (below2 w (.cells (cV t a cap) 35) (.cells (cI3 d b c) 37))
  have q1 : Is ((w.alloc (.cells (cV t a cap) 35)).alloc (.cells (cI3 d b c) 37)) w.heap.size 35 (cV t a cap) := (Is.new _ _ _).alloc _
  have q2 := Is.new2 w (.cells (cV t a cap) 35) (cI3 d b c) 37
  have hs : w.heap.size + 2 ≤ ((w.alloc (.cells (cV t a cap) 35)).alloc (.cells (cI3 d b c) 37)).heap.size := by simp
  by_cases hd : (T.depth t : Int) ≤ d
  · have hd' : decide ((T.depth t : Int) ≤ d) = true := by simpa using hd
    go_enter Try.func15, Try.ntmps15
    go_wp2_with fail
    generalize hW : (w.alloc (.cells (cV t a cap) 35)).alloc (.cells (cI3 d b c) 37) = W0 at q1 q2 H3 hs ⊢
    clear hW
    obtain ⟨c0, c1, c2, c3, c4⟩ := q1.cells5
    obtain ⟨l0, l1, l2⟩ := q2.cells3
    go_region_held3 (fun w' => (∀ b o, b < w.heap.size + 2 → w'.cell? ⟨b, o, none⟩ = W0.cell? ⟨b, o, none⟩) ∧ Below (w.heap.size + 2) W0 w') (first | exact ⟨fun _ _ _ => rfl, (Below.refl _ _).drew⟩ | exact keep_step (by assumption) (Below.drew (Below.refl _ _)) (Nat.le_refl _) | exact keep_step (by assumption) (by assumption) (by first | omega | (simp only [World.size_drew]; omega) | (have := (‹(_ ∧ Below (w.heap.size + 2) W0 _)›).2.size; first | omega | (simp only [World.size_drew]; omega) | (simp only [World.size_drew] at this; omega)))) (first | (go_at_call 29; refine (H1.out _ ?_).mono ?_; (exact below_step H3.out.drew (Below.refl _ _) (Nat.le_refl _)); rintro e w2 ⟨rfl, hb⟩) | (go_at_call 30; refine (H2.out _ ?_).mono ?_; (exact below_step H3.out (‹_ ∧ Below (w.heap.size + 2) W0 _›).2 (by omega)); rintro e w2 ⟨rfl, hb⟩))
    go_wp2_with fail
    go_ret
    exact ⟨by rw [hd0.out]; simp [hd], below_step H3.out (‹_ ∧ Below (w.heap.size + 2) W0 _›).2 (by omega)⟩
  · have hd' : decide ((T.depth t : Int) ≤ d) = false := by simpa using hd
    go_enter Try.func15, Try.ntmps15
    go_wp2_with fail
    generalize hW : (w.alloc (.cells (cV t a cap) 35)).alloc (.cells (cI3 d b c) 37) = W0 at q1 q2 H3 hs ⊢
    clear hW
    obtain ⟨c0, c1, c2, c3, c4⟩ := q1.cells5
    obtain ⟨l0, l1, l2⟩ := q2.cells3
    refine wp_region_held_drew (S := fun w' => (∀ b o, b < w.heap.size + 2 → w'.cell? ⟨b, o, none⟩ = W0.cell? ⟨b, o, none⟩) ∧ Below (w.heap.size + 2) W0 w') (by kernel_rfl) (by first | exact ⟨fun _ _ _ => rfl, (Below.refl _ _).drew⟩ | exact keep_step (by assumption) (Below.drew (Below.refl _ _)) (Nat.le_refl _) | exact keep_step (by assumption) (by assumption) (by first | omega | (simp only [World.size_drew]; omega) | (have := (‹(_ ∧ Below (w.heap.size + 2) W0 _)›).2.size; first | omega | (simp only [World.size_drew]; omega) | (simp only [World.size_drew] at this; omega)))) (fun hHeld => ?_)
    refine wpAnyH_take (i := 0) (oi := ⟨some 5, _, _, _, _, _⟩) (v := ?_) rfl (by kernel_rfl) (by kernel_rfl) (by kernel_rfl) (fun _ _ _ h => h) (Or.inl ⟨by rfl, ?_⟩) (by assumption) ?_
    rotate_left 1
    · (intro w hSw; (try dsimp only at hSw); go_simp; try (with_reducible rfl))
    try simp only [Act.put, List.setIfInBounds_toArray, List.set_cons_zero, List.set_cons_succ]
    refine wpAnyH_take (i := 2) (oi := ⟨some 7, _, _, _, _, _⟩) (v := ?_) rfl (by kernel_rfl) (by kernel_rfl) (by kernel_rfl) (fun _ _ _ h => h) (Or.inl ⟨by rfl, ?_⟩) (by assumption) ?_
    rotate_left 1
    · (intro w hSw; (try dsimp only at hSw); go_simp; try (with_reducible rfl))
    try simp only [Act.put, List.setIfInBounds_toArray, List.set_cons_zero, List.set_cons_succ]
    refine wpAnyH_take (i := 3) (oi := ⟨some 8, _, _, _, _, _⟩) (v := ?_) rfl (by kernel_rfl) (by kernel_rfl) (by kernel_rfl) (fun _ _ _ h => h) (Or.inl ⟨by rfl, ?_⟩) (by assumption) ?_
    rotate_left 1
    · (intro w hSw; (try dsimp only at hSw); go_simp; try (with_reducible rfl))
    try simp only [Act.put, List.setIfInBounds_toArray, List.set_cons_zero, List.set_cons_succ]
    refine wpAnyH_ready (rs := [1]) (by kernel_rfl) (by simp) ?_
    refine AllReadyH.cons (o := ⟨some 6, _, _, _, _, _⟩) rfl (fun K hK => ?_) AllReadyH.nil
    go_simp
    (go_at_call 29; refine (H1.out _ ?_).mono ?_; (exact below_step H3.out.drew (Below.refl _ _) (Nat.le_refl _)); rintro e w2 ⟨rfl, hb⟩)
    go_wp2_with fail
    refine hK.out _ _ (by first | exact ⟨fun _ _ _ => rfl, (Below.refl _ _).drew⟩ | exact keep_step (by assumption) (Below.drew (Below.refl _ _)) (Nat.le_refl _) | exact keep_step (by assumption) (by assumption) (by first | omega | (simp only [World.size_drew]; omega) | (have := (‹(_ ∧ Below (w.heap.size + 2) W0 _)›).2.size; first | omega | (simp only [World.size_drew]; omega) | (simp only [World.size_drew] at this; omega)))) (fun hHeld => ?_)
    clear hK K
    try simp only [Act.put, List.setIfInBounds_toArray, List.set_cons_zero, List.set_cons_succ]
    refine wpAnyH_take (i := 4) (oi := ⟨some 9, _, _, _, _, _⟩) (v := ?_) rfl (by kernel_rfl) (by kernel_rfl) (by kernel_rfl) (fun _ _ _ h => h) (Or.inl ⟨by rfl, ?_⟩) (by assumption) ?_
    rotate_left 1
    · (intro w hSw; (try dsimp only at hSw); go_simp; try (with_reducible rfl))
    try simp only [Act.put, List.setIfInBounds_toArray, List.set_cons_zero, List.set_cons_succ]
    refine wpAnyH_take (i := 5) (oi := ⟨some 10, _, _, _, _, _⟩) (v := ?_) rfl (by kernel_rfl) (by kernel_rfl) (by kernel_rfl) (fun _ _ _ h => h) (Or.inl ⟨by rfl, ?_⟩) (by assumption) ?_
    rotate_left 1
    · (intro w hSw; (try dsimp only at hSw); go_simp; try (with_reducible rfl))
    try simp only [Act.put, List.setIfInBounds_toArray, List.set_cons_zero, List.set_cons_succ]
    refine wpAnyH_take (i := 6) (oi := ⟨some 11, _, _, _, _, _⟩) (v := undef) rfl (by kernel_rfl) (by kernel_rfl) (by kernel_rfl) (fun _ _ _ h => h) (Or.inr ⟨by rfl, rfl⟩) (by assumption) ?_
    try simp only [Act.put, List.setIfInBounds_toArray, List.set_cons_zero, List.set_cons_succ]
    refine wpAnyH_take (i := 7) (oi := ⟨some 12, _, _, _, _, _⟩) (v := undef) rfl (by kernel_rfl) (by kernel_rfl) (by kernel_rfl) (fun _ _ _ h => h) (Or.inr ⟨by rfl, rfl⟩) (by assumption) ?_
    try simp only [Act.put, List.setIfInBounds_toArray, List.set_cons_zero, List.set_cons_succ]
    refine wpAnyH_take (i := 8) (oi := ⟨some 13, _, _, _, _, _⟩) (v := undef) rfl (by kernel_rfl) (by kernel_rfl) (by kernel_rfl) (fun _ _ _ h => h) (Or.inr ⟨by rfl, rfl⟩) (by assumption) ?_
    try simp only [Act.put, List.setIfInBounds_toArray, List.set_cons_zero, List.set_cons_succ]
    refine wpAnyH_take (i := 9) (oi := ⟨some 14, _, _, _, _, _⟩) (v := undef) rfl (by kernel_rfl) (by kernel_rfl) (by kernel_rfl) (fun _ _ _ h => h) (Or.inr ⟨by rfl, rfl⟩) (by assumption) ?_
    try simp only [Act.put, List.setIfInBounds_toArray, List.set_cons_zero, List.set_cons_succ]
    refine wpAnyH_take (i := 10) (oi := ⟨some 15, _, _, _, _, _⟩) (v := undef) rfl (by kernel_rfl) (by kernel_rfl) (by kernel_rfl) (fun _ _ _ h => h) (Or.inr ⟨by rfl, rfl⟩) (by assumption) ?_
    try simp only [Act.put, List.setIfInBounds_toArray, List.set_cons_zero, List.set_cons_succ]
    refine wpAnyH_take (i := 11) (oi := ⟨some 16, _, _, _, _, _⟩) (v := ?_) rfl (by kernel_rfl) (by kernel_rfl) (by kernel_rfl) (fun _ _ _ h => h) (Or.inl ⟨by rfl, ?_⟩) (by assumption) ?_
    rotate_left 1
    · (intro w hSw; (try dsimp only at hSw); go_simp; try (with_reducible rfl))
    try simp only [Act.put, List.setIfInBounds_toArray, List.set_cons_zero, List.set_cons_succ]
    refine wpAnyH_take (i := 12) (oi := ⟨some 4, _, _, _, _, _⟩) (v := ?_) rfl (by kernel_rfl) (by kernel_rfl) (by kernel_rfl) (fun _ _ _ h => h) (Or.inl ⟨by rfl, ?_⟩) (by assumption) ?_
    rotate_left 1
    · (intro w hSw; (try dsimp only at hSw); go_simp; try (with_reducible rfl))
    try simp only [Act.put, List.setIfInBounds_toArray, List.set_cons_zero, List.set_cons_succ]
    refine wpAnyH_done (by kernel_rfl) ?_ _
    go_wp2_with fail
    go_ret
    exact ⟨by rw [hd0.out]; simp; omega, below_drawn H3.out hb (by simp only [World.size_drew]; omega)⟩
theorem impl_Within (t : T) (hc : T.count t ≤ 4611686018427387904) (a : Option Addr) (cap B : Nat) (d b c : Int) (w : World) (hr : R w B a cap t.l) (hBw : B ≤ w.heap.size) :
    Calls Try.prog 18 #[.agg #[.int .i64 t.k, .int .i64 t.n, .int .i64 t.x, .string t.s, .slice a t.l.length cap], .agg #[.int .i64 d, .int .i64 b, .int .i64 c]] w fun e w' => e = .returned (.bool (withinB t d c)) ∧ Below w.heap.size w w' := by
  have h1 := fun (w1 : World) (h : Below w.heap.size w w1) => impl_DeepOf t hc a cap B w1 (hr.below h hBw) (by have := h.size; omega)
  have h2 := fun (w1 : World) (h : Below w.heap.size w w1) => impl_CountOf t hc a cap B w1 (hr.below h hBw) (by have := h.size; omega)
  have H1 := Lib.hid h1; clear h1
  have H2 := Lib.hid h2; clear h2
  have hd0 : Hid (withinB t d c = decide ((T.depth t : Int) ≤ d ∧ (T.count t : Int) ≤ c)) := rfl
  have H3 := Lib.hid (below2 w (.cells (cV t a cap) 35) (.cells (cI3 d b c) 37))
  have q1 : Is ((w.alloc (.cells (cV t a cap) 35)).alloc (.cells (cI3 d b c) 37)) w.heap.size 35 (cV t a cap) := (Is.new _ _ _).alloc _
  have q2 := Is.new2 w (.cells (cV t a cap) 35) (cI3 d b c) 37
  have hs : w.heap.size + 2 ≤ ((w.alloc (.cells (cV t a cap) 35)).alloc (.cells (cI3 d b c) 37)).heap.size := by simp
  by_cases hd : (T.depth t : Int) ≤ d
  · have hd' : decide ((T.depth t : Int) ≤ d) = true := by simpa using hd
    go_enter Try.func18, Try.ntmps18
    go_wp2_with fail
    generalize hW : (w.alloc (.cells (cV t a cap) 35)).alloc (.cells (cI3 d b c) 37) = W0 at q1 q2 H3 hs ⊢
    clear hW
    obtain ⟨c0, c1, c2, c3, c4⟩ := q1.cells5
    obtain ⟨l0, l1, l2⟩ := q2.cells3
    go_region_held3 (fun w' => (∀ b o, b < w.heap.size + 2 → w'.cell? ⟨b, o, none⟩ = W0.cell? ⟨b, o, none⟩) ∧ Below (w.heap.size + 2) W0 w') (first | exact ⟨fun _ _ _ => rfl, (Below.refl _ _).drew⟩ | exact keep_step (by assumption) (Below.drew (Below.refl _ _)) (Nat.le_refl _) | exact keep_step (by assumption) (by assumption) (by first | omega | (simp only [World.size_drew]; omega) | (have := (‹(_ ∧ Below (w.heap.size + 2) W0 _)›).2.size; first | omega | (simp only [World.size_drew]; omega) | (simp only [World.size_drew] at this; omega)))) (first | (go_at_call 32; refine (H1.out _ ?_).mono ?_; (exact below_step H3.out.drew (Below.refl _ _) (Nat.le_refl _)); rintro e w2 ⟨rfl, hb⟩) | (go_at_call 33; refine (H2.out _ ?_).mono ?_; (exact below_step H3.out (‹_ ∧ Below (w.heap.size + 2) W0 _›).2 (by omega)); rintro e w2 ⟨rfl, hb⟩))
    go_wp2_with fail
    go_ret
    exact ⟨by rw [hd0.out]; simp [hd], below_step H3.out (‹_ ∧ Below (w.heap.size + 2) W0 _›).2 (by omega)⟩
  · have hd' : decide ((T.depth t : Int) ≤ d) = false := by simpa using hd
    go_enter Try.func18, Try.ntmps18
    go_wp2_with fail
    generalize hW : (w.alloc (.cells (cV t a cap) 35)).alloc (.cells (cI3 d b c) 37) = W0 at q1 q2 H3 hs ⊢
    clear hW
    obtain ⟨c0, c1, c2, c3, c4⟩ := q1.cells5
    obtain ⟨l0, l1, l2⟩ := q2.cells3
    refine wp_region_held_drew (S := fun w' => (∀ b o, b < w.heap.size + 2 → w'.cell? ⟨b, o, none⟩ = W0.cell? ⟨b, o, none⟩) ∧ Below (w.heap.size + 2) W0 w') (by kernel_rfl) (by first | exact ⟨fun _ _ _ => rfl, (Below.refl _ _).drew⟩ | exact keep_step (by assumption) (Below.drew (Below.refl _ _)) (Nat.le_refl _) | exact keep_step (by assumption) (by assumption) (by first | omega | (simp only [World.size_drew]; omega) | (have := (‹(_ ∧ Below (w.heap.size + 2) W0 _)›).2.size; first | omega | (simp only [World.size_drew]; omega) | (simp only [World.size_drew] at this; omega)))) (fun hHeld => ?_)
    refine wpAnyH_take (i := 0) (oi := ⟨some 5, _, _, _, _, _⟩) (v := ?_) rfl (by kernel_rfl) (by kernel_rfl) (by kernel_rfl) (fun _ _ _ h => h) (Or.inl ⟨by rfl, ?_⟩) (by assumption) ?_
    rotate_left 1
    · (intro w hSw; (try dsimp only at hSw); go_simp; try (with_reducible rfl))
    try simp only [Act.put, List.setIfInBounds_toArray, List.set_cons_zero, List.set_cons_succ]
    refine wpAnyH_take (i := 2) (oi := ⟨some 7, _, _, _, _, _⟩) (v := ?_) rfl (by kernel_rfl) (by kernel_rfl) (by kernel_rfl) (fun _ _ _ h => h) (Or.inl ⟨by rfl, ?_⟩) (by assumption) ?_
    rotate_left 1
    · (intro w hSw; (try dsimp only at hSw); go_simp; try (with_reducible rfl))
    try simp only [Act.put, List.setIfInBounds_toArray, List.set_cons_zero, List.set_cons_succ]
    refine wpAnyH_take (i := 3) (oi := ⟨some 8, _, _, _, _, _⟩) (v := ?_) rfl (by kernel_rfl) (by kernel_rfl) (by kernel_rfl) (fun _ _ _ h => h) (Or.inl ⟨by rfl, ?_⟩) (by assumption) ?_
    rotate_left 1
    · (intro w hSw; (try dsimp only at hSw); go_simp; try (with_reducible rfl))
    try simp only [Act.put, List.setIfInBounds_toArray, List.set_cons_zero, List.set_cons_succ]
    refine wpAnyH_ready (rs := [1]) (by kernel_rfl) (by simp) ?_
    refine AllReadyH.cons (o := ⟨some 6, _, _, _, _, _⟩) rfl (fun K hK => ?_) AllReadyH.nil
    go_simp
    (go_at_call 32; refine (H1.out _ ?_).mono ?_; (exact below_step H3.out.drew (Below.refl _ _) (Nat.le_refl _)); rintro e w2 ⟨rfl, hb⟩)
    go_wp2_with fail
    refine hK.out _ _ (by first | exact ⟨fun _ _ _ => rfl, (Below.refl _ _).drew⟩ | exact keep_step (by assumption) (Below.drew (Below.refl _ _)) (Nat.le_refl _) | exact keep_step (by assumption) (by assumption) (by first | omega | (simp only [World.size_drew]; omega) | (have := (‹(_ ∧ Below (w.heap.size + 2) W0 _)›).2.size; first | omega | (simp only [World.size_drew]; omega) | (simp only [World.size_drew] at this; omega)))) (fun hHeld => ?_)
    clear hK K
    try simp only [Act.put, List.setIfInBounds_toArray, List.set_cons_zero, List.set_cons_succ]
    refine wpAnyH_take (i := 4) (oi := ⟨some 9, _, _, _, _, _⟩) (v := ?_) rfl (by kernel_rfl) (by kernel_rfl) (by kernel_rfl) (fun _ _ _ h => h) (Or.inl ⟨by rfl, ?_⟩) (by assumption) ?_
    rotate_left 1
    · (intro w hSw; (try dsimp only at hSw); go_simp; try (with_reducible rfl))
    try simp only [Act.put, List.setIfInBounds_toArray, List.set_cons_zero, List.set_cons_succ]
    refine wpAnyH_take (i := 5) (oi := ⟨some 10, _, _, _, _, _⟩) (v := ?_) rfl (by kernel_rfl) (by kernel_rfl) (by kernel_rfl) (fun _ _ _ h => h) (Or.inl ⟨by rfl, ?_⟩) (by assumption) ?_
    rotate_left 1
    · (intro w hSw; (try dsimp only at hSw); go_simp; try (with_reducible rfl))
    try simp only [Act.put, List.setIfInBounds_toArray, List.set_cons_zero, List.set_cons_succ]
    refine wpAnyH_take (i := 6) (oi := ⟨some 11, _, _, _, _, _⟩) (v := undef) rfl (by kernel_rfl) (by kernel_rfl) (by kernel_rfl) (fun _ _ _ h => h) (Or.inr ⟨by rfl, rfl⟩) (by assumption) ?_
    try simp only [Act.put, List.setIfInBounds_toArray, List.set_cons_zero, List.set_cons_succ]
    refine wpAnyH_take (i := 7) (oi := ⟨some 12, _, _, _, _, _⟩) (v := undef) rfl (by kernel_rfl) (by kernel_rfl) (by kernel_rfl) (fun _ _ _ h => h) (Or.inr ⟨by rfl, rfl⟩) (by assumption) ?_
    try simp only [Act.put, List.setIfInBounds_toArray, List.set_cons_zero, List.set_cons_succ]
    refine wpAnyH_take (i := 8) (oi := ⟨some 13, _, _, _, _, _⟩) (v := undef) rfl (by kernel_rfl) (by kernel_rfl) (by kernel_rfl) (fun _ _ _ h => h) (Or.inr ⟨by rfl, rfl⟩) (by assumption) ?_
    try simp only [Act.put, List.setIfInBounds_toArray, List.set_cons_zero, List.set_cons_succ]
    refine wpAnyH_take (i := 9) (oi := ⟨some 14, _, _, _, _, _⟩) (v := undef) rfl (by kernel_rfl) (by kernel_rfl) (by kernel_rfl) (fun _ _ _ h => h) (Or.inr ⟨by rfl, rfl⟩) (by assumption) ?_
    try simp only [Act.put, List.setIfInBounds_toArray, List.set_cons_zero, List.set_cons_succ]
    refine wpAnyH_take (i := 10) (oi := ⟨some 15, _, _, _, _, _⟩) (v := undef) rfl (by kernel_rfl) (by kernel_rfl) (by kernel_rfl) (fun _ _ _ h => h) (Or.inr ⟨by rfl, rfl⟩) (by assumption) ?_
    try simp only [Act.put, List.setIfInBounds_toArray, List.set_cons_zero, List.set_cons_succ]
    refine wpAnyH_take (i := 11) (oi := ⟨some 16, _, _, _, _, _⟩) (v := ?_) rfl (by kernel_rfl) (by kernel_rfl) (by kernel_rfl) (fun _ _ _ h => h) (Or.inl ⟨by rfl, ?_⟩) (by assumption) ?_
    rotate_left 1
    · (intro w hSw; (try dsimp only at hSw); go_simp; try (with_reducible rfl))
    try simp only [Act.put, List.setIfInBounds_toArray, List.set_cons_zero, List.set_cons_succ]
    refine wpAnyH_take (i := 12) (oi := ⟨some 4, _, _, _, _, _⟩) (v := ?_) rfl (by kernel_rfl) (by kernel_rfl) (by kernel_rfl) (fun _ _ _ h => h) (Or.inl ⟨by rfl, ?_⟩) (by assumption) ?_
    rotate_left 1
    · (intro w hSw; (try dsimp only at hSw); go_simp; try (with_reducible rfl))
    try simp only [Act.put, List.setIfInBounds_toArray, List.set_cons_zero, List.set_cons_succ]
    refine wpAnyH_done (by kernel_rfl) ?_ _
    go_wp2_with fail
    go_ret
    exact ⟨by rw [hd0.out]; simp; omega, below_drawn H3.out hb (by simp only [World.size_drew]; omega)⟩
end Go.Proofs.Ytfpnpnbiofijaab
