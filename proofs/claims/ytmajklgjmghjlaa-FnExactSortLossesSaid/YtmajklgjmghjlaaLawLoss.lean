/- Contracts and lemmas for the proofs of this seat: LawLoss. No condition beyond those stated. -/
import Derived.Test.YtmajklgjmghjlaaRows
import Derived.WalkKit
import Derived.ProofKit
import Derived.OpenShut
import Derived.Handy
import Derived.Lib.Hide
import Derived.Lib.SmallJoins
import Derived.Deep.RegionHeld3
import Derived.Test.YtmajklgjmghjlaaBase
import Derived.Test.YtmajklgjmghjlaaGen
namespace Go.Proofs.Ytmajklgjmghjlaa
open Go.ChangeShapes Go.WideShapes Go.ChangeAt Go.RowKit Go.Joins
set_option linter.unusedVariables false
set_option maxRecDepth 100000
theorem szStepS_calls (l : List St) (a : Option Addr) (cap : Nat) (left : Int) (B : Nat) (w : World) (hr : Rd EStep 2 w B a cap l) (h0 : 0 ≤ left) (h1 : left ≤ 1048576) :
    Calls Try.prog 21 #[.slice a l.length cap, .int .i64 left] w fun e w' => ∃ r : Int, e = .returned (.int .i64 r) ∧ r ≤ left ∧ -1 ≤ r ∧ (0 ≤ r → (l.length : Int) + r = left) ∧ Below w.heap.size w w' := by
  obtain ⟨hl1, hl2⟩ := hr.len
  by_cases hlen : left < l.length
  · go_enter Try.func21, Try.ntmps21
    go_wp2
    go_ret
    exact ⟨_, rfl, by omega, by omega, fun h => by omega, Below.refl _ _⟩
  have hg : ¬ (left - (l.length : Int) < 0) := by omega
  go_enter Try.func21, Try.ntmps21
  go_wp2
  go_ret
  exact ⟨_, rfl, by omega, by omega, fun h => by omega, Below.refl _ _⟩
theorem szLoss_calls (x : Lo) (a : Option Addr) (cap : Nat) (left : Int) (B : Nat) (w : World) (hr : Rd EStep 2 w B a cap x.2) (hB : B ≤ w.heap.size) (h0 : 0 ≤ left) (h1 : left ≤ 1048576) :
    Calls Try.prog 11 #[.agg #[.int .i64 x.1, .slice a x.2.length cap], .int .i64 left] w fun e w' => ∃ r : Int, e = .returned (.int .i64 r) ∧ r ≤ left ∧ -1 ≤ r ∧ (0 ≤ r → (x.2.length : Int) + r = left) ∧ Below w.heap.size w w' := by
  go_enter Try.func11, Try.ntmps11
  go_wp2_with fail
  refine (szStepS_calls x.2 a cap left B _ (hr.below EStep.loc (below1 _ _) hB) h0 h1).mono ?_
  rintro e w2 ⟨r, rfl, g1, g2, g3, hb⟩
  have HB := Lib.hid hb; clear hb
  by_cases hneg : r < 0
  · go_wp2_with fail
    go_ret
    exact ⟨_, rfl, by omega, by omega, fun h => by omega, below_step (below1 _ _) HB.out (by simp)⟩
  · have G := Lib.hid (g3 (by omega)); clear g3
    go_wp2_with fail
    go_ret
    exact ⟨_, rfl, by omega, by omega, fun _ => G.out, below_step (below1 _ _) HB.out (by simp)⟩
theorem szLossS_calls (l : List Lo) (a : Option Addr) (cap : Nat) (left : Int) (B : Nat) (w : World) (hr : Rd ELoss 2 w B a cap l) (hB : B ≤ w.heap.size) (h0 : 0 ≤ left) (h1 : left ≤ 1048576) :
    Calls Try.prog 4 #[.slice a l.length cap, .int .i64 left] w fun e w' => ∃ r : Int, e = .returned (.int .i64 r) ∧ r ≤ left ∧ -1 ≤ r ∧ (0 ≤ r → (szLo l : Int) + r = left) ∧ Below w.heap.size w w' := by
  obtain ⟨hl1, hl2⟩ := hr.len
  by_cases hlen : left < l.length
  · go_enter Try.func4, Try.ntmps4
    go_wp2
    go_ret
    exact ⟨_, rfl, by omega, by omega, fun h => by omega, Below.refl _ _⟩
  have hg : ¬ (left - (l.length : Int) < 0) := by omega
  go_enter Try.func4, Try.ntmps4
  go_wp2
  go_loopw [1, 5, 23] (fun m i _ wr => ∃ (j : Nat) (r : Int), j ≤ l.length ∧ i = .int .i64 j ∧ m = .int .i64 r ∧ 0 ≤ r ∧ r ≤ left ∧ Hid ((l.length : Int) + (szLo (l.take j) : Int) + r = left + j) ∧ Below w.heap.size w wr) (fun _ i _ _ => l.length - (intOf i).toNat)
  case atStart => exact ⟨0, left - l.length, Nat.zero_le _, rfl, by go_num, by omega, by omega, by show _ = _; simp [szLo]; omega, Below.refl _ _⟩
  case round =>
    obtain ⟨j, r, hj, rfl, rfl, hr0, hr1, HS, hb⟩ := hrel
    have hbs := hb.size
    by_cases hlt : j < l.length
    · obtain ⟨b, o, a', cap', rfl, hbl, d0, d1, hi, hq⟩ := (hr.below ELoss.loc hb hB).loss j hlt
      have HT := Lib.hid (szLo_take_succ l j hlt)
      go_wp2_with fail
      refine (szLoss_calls l[j] a' cap' r B _ hq (by omega) hr0 (by omega)).mono ?_
      rintro e w2 ⟨r2, rfl, g1, g2, g3, hb2⟩
      by_cases hneg : r2 < 0
      · go_wp2_with fail
        go_ret
        exact ⟨_, rfl, by omega, by omega, fun h => by omega, hb.trans (hb2.mono hbs)⟩
      · have G := Lib.hid (g3 (by omega)); clear g3
        go_wp2_with fail
        all_goals go_roundw
        case rel => exact ⟨j + 1, r2, by omega, by go_num, rfl, by omega, by omega, by show _ = _; rw [HT.out]; have := G.out; have := HS.out; omega, hb.trans (hb2.mono hbs)⟩
        case measure => simp [intOf]; omega
    · have hjj : l.length = j := by omega
      have HJ := Lib.hid hjj; clear hjj
      go_wp2_with fail
      go_ret
      refine ⟨_, rfl, hr1, by omega, fun _ => ?_, hb⟩
      have h := HS.out; rw [← HJ.out, List.take_length] at h; omega
theorem toStep_calls (s : St) (w : World) (hi : I64 s.1) :
    Calls Try.prog 32 #[.agg #[.int .i64 s.1, .bool s.2]] w fun e w' => e = .returned (.agg #[.int .i64 s.1, .bool s.2]) ∧ Below w.heap.size w w' := by
  go_enter Try.func32, Try.ntmps32
  go_wp2
  go_returns
  exact ⟨rfl, by go_grown⟩
theorem info_Step : (Try.prog.info? 48).map (fun i => (i.zero, i.size, i.bytes)) = some (some (.agg #[.int .i64 0, .bool false]), 2, 16) := by kernel_rfl
theorem toStepS_calls (l : List St) (a : Option Addr) (cap : Nat) (B : Nat) (w : World) (hr : Rd EStep 2 w B a cap l) (hB : B ≤ w.heap.size) (hz : l.length ≤ 1048576) :
    Calls Try.prog 24 #[.slice a l.length cap] w fun e w' => ∃ a', e = .returned (.slice a' l.length l.length) ∧ Ow EStep 2 w' w.heap.size w'.heap.size a' l.length l ∧ Below w.heap.size w w' := by
  obtain ⟨hl1, hl2⟩ := hr.len
  have hmk := fun w => make_run Try.underlying35 info_Step rfl l.length (by omega) (by omega) w
  go_enter Try.func24, Try.ntmps24
  go_wp2_with fail
  generalize hW : w.alloc (Obj.cells (madeCells #[Value.int IntKind.i64 0, Value.bool false] (l.length * 2)) 48) = W0
  have hBl : Below w.heap.size w W0 := by subst hW; go_grown
  have hBk : Blk W0 w.heap.size 48 (l.length * 2) := by subst hW; have := Blk.alloc w (madeCells #[Value.int IntKind.i64 0, Value.bool false] (l.length * 2)) 48; rwa [size_madeCells] at this
  clear hW hmk
  go_loopw [4] (fun i wr => ∃ (j : Nat), j ≤ l.length ∧ i = .int .i64 j ∧ Fil EStep 2 wr w.heap.size 48 (l.length * 2) (l.take j) ∧ Below w.heap.size w wr) (fun i _ => l.length - (intOf i).toNat)
  case atStart => exact ⟨0, Nat.zero_le _, rfl, Fil.start hBk, hBl⟩
  case round =>
    obtain ⟨j, hj, rfl, hf, hb⟩ := hrel
    have hbs := hb.size
    by_cases hlt : j < l.length
    · obtain ⟨b, o, rfl, hbl, d0, d1, hi⟩ := (hr.below EStep.loc hb hB).step j hlt
      go_wp2_with fail
      refine (toStep_calls l[j] _ hi).mono ?_
      rintro e w2 ⟨rfl, hb2⟩
      have hbk2 : Blk w2 w.heap.size 48 (l.length * 2) := hf.1.below hb2 hf.1.unf.lt
      have hfz := fun i => hbk2.frozen i
      obtain ⟨x0, hx0⟩ := hbk2.cell (j * 2) (by omega)
      obtain ⟨x1, hx1⟩ := hbk2.cell (j * 2 + 1) (by omega)
      have HB := Lib.hid hb2; clear hb2
      go_wp2_with fail
      go_roundw
      case rel =>
        refine ⟨j + 1, by omega, by go_num, ?_, ?_⟩
        · rw [take_snoc l j hlt]
          have hlj : j * 2 = (l.take j).length * 2 := by rw [List.length_take]; omega
          exact hf.step EStep.loc (st2_blk hbk2) (fun f h1 h2 => (st2_heap f h1).trans (HB.out.block f h2)) (fun i hi => (st2_miss i (by omega)).trans (World.cell?_of_block (w := wr) (a := ⟨w.heap.size, i, none⟩) (HB.out.block _ hf.1.unf.lt))) hlj (G := []) ⟨rfl, st2_hit0 hbk2 (by omega), st2_hit1 hbk2 (by omega), hi⟩ (by simp) (by simp)
        · exact (hb.trans (HB.out.mono hbs)).trans (st2_below _ (Nat.le_refl _))
      case measure => simp [intOf]; omega
    · have hjj : l.length = j := by omega
      have HJ := Lib.hid hjj; clear hjj
      go_wp2_with fail
      go_ret
      refine ⟨_, rfl, ?_, hb⟩
      have h := HJ.out
      have hf' := hf; rw [← h, List.take_length] at hf'
      exact hf'.done (Nat.le_refl _) (by unfold maxLen; omega)
theorem toLoss_calls (x : Lo) (a : Option Addr) (cap : Nat) (B : Nat) (w : World) (hr : Rd EStep 2 w B a cap x.2) (hi : I64 x.1) (hB : B ≤ w.heap.size) (hz : x.2.length ≤ 1048576) :
    Calls Try.prog 14 #[.agg #[.int .i64 x.1, .slice a x.2.length cap]] w fun e w' => ∃ a', e = .returned (.agg #[.int .i64 x.1, .slice a' x.2.length x.2.length]) ∧ Ow EStep 2 w' w.heap.size w'.heap.size a' x.2.length x.2 ∧ Below w.heap.size w w' := by
  go_enter Try.func14, Try.ntmps14
  go_wp2_with fail
  generalize hW : (((w.alloc (Obj.cells #[Value.int IntKind.i64 x.1, Value.slice a x.2.length cap] 33)).alloc (Obj.cells #[Value.int IntKind.i64 0, Value.slice none 0 0] 37)).alloc (Obj.cells #[Value.int IntKind.i64 x.1, Value.slice none 0 0] 37)) = W0
  have hBl : Below w.heap.size w W0 := by subst hW; go_grown
  have hN : w.heap.size + 3 ≤ W0.heap.size := by subst hW; simp
  have q1 : Is W0 (w.heap.size + 1) 37 #[Value.int IntKind.i64 0, Value.slice none 0 0] := by subst hW; exact (Is.new2 _ _ _ _).alloc _
  have q2 : Is W0 (w.heap.size + 1 + 1) 37 #[Value.int IntKind.i64 x.1, Value.slice none 0 0] := by subst hW; exact Is.new3 _ _ _ _ _
  clear hW
  refine (toStepS_calls x.2 a cap B _ (hr.below EStep.loc hBl hB) (by omega) hz).mono ?_
  rintro e w2 ⟨a2, rfl, hown, hb2⟩
  have p1 := q1.below hb2 (by omega)
  have p2 := q2.below hb2 (by omega)
  have f1 := fun i => p1.frozen i
  have f2 := fun i => p2.frozen i
  obtain ⟨r0, r1⟩ := p1.cells2
  obtain ⟨o0, o1⟩ := p2.cells2
  have HB := Lib.hid hb2; clear hb2
  have hbs := HB.out.size
  go_wp2_with fail
  have hk : Blk (w2.setCell ⟨w.heap.size + 1 + 1, 1, none⟩ (.slice a2 x.2.length x.2.length)) (w.heap.size + 1) 37 2 := p1.blk.agree (heap_miss _ _ _ _ (by omega) _)
  have e0 := st2_hit0 (o := 0) (v0 := .int .i64 x.1) (v1 := .slice a2 x.2.length x.2.length) hk (by omega)
  have e1 := st2_hit1 (o := 0) (v0 := .int .i64 x.1) (v1 := .slice a2 x.2.length x.2.length) hk (by omega)
  have hbel := st2_below (w := w2.setCell ⟨w.heap.size + 1 + 1, 1, none⟩ (.slice a2 x.2.length x.2.length)) (g := w.heap.size + 1) (o := 0) (v0 := .int .i64 x.1) (v1 := .slice a2 x.2.length x.2.length) w.heap.size (by omega)
  have hold : ∀ f, W0.heap.size ≤ f → (st2 (w2.setCell ⟨w.heap.size + 1 + 1, 1, none⟩ (.slice a2 x.2.length x.2.length)) (w.heap.size + 1) 0 (.int .i64 x.1) (.slice a2 x.2.length x.2.length)).heap[f]? = w2.heap[f]? := fun f hf => (st2_heap f (by omega)).trans (heap_miss _ _ _ _ (by omega) _)
  have hsz : (st2 (w2.setCell ⟨w.heap.size + 1 + 1, 1, none⟩ (.slice a2 x.2.length x.2.length)) (w.heap.size + 1) 0 (.int .i64 x.1) (.slice a2 x.2.length x.2.length)).heap.size = w2.heap.size := by rw [st2_size, size_set]
  simp only [st2, Nat.zero_add] at e0 e1 hbel hold hsz
  refine bodyPost_ret (v := .agg #[.int .i64 x.1, .slice a2 x.2.length x.2.length]) (by simp [results, Try.results14, go_sem, e0, e1]) rfl ⟨a2, rfl, ?_, ?_⟩
  · rw [hsz]
    exact (hown.agree EStep.loc (fun f h1 h2 => hold f h1)).more (by omega) (Nat.le_refl _)
  · exact (hBl.trans (HB.out.mono (by omega))).trans ((Below.setCell (Below.refl _ _) (p := ⟨w.heap.size + 1 + 1, 1, none⟩) (by simp; omega) _).trans hbel)
theorem info_Loss : (Try.prog.info? 37).map (fun i => (i.zero, i.size, i.bytes)) = some (some (.agg #[.int .i64 0, .slice none 0 0]), 2, 32) := by kernel_rfl
theorem toLossS_calls (l : List Lo) (a : Option Addr) (cap : Nat) (B : Nat) (w : World) (hr : Rd ELoss 2 w B a cap l) (hB : B ≤ w.heap.size) (hz : szLo l ≤ 1048576) :
    Calls Try.prog 6 #[.slice a l.length cap] w fun e w' => ∃ a', e = .returned (.slice a' l.length l.length) ∧ Ow ELoss 2 w' w.heap.size w'.heap.size a' l.length l ∧ Below w.heap.size w w' := by
  obtain ⟨hl1, hl2⟩ := hr.len
  have hll := length_le_szLo l
  have hmk := fun w => make_run Try.underlying24 info_Loss rfl l.length (by omega) (by omega) w
  go_enter Try.func6, Try.ntmps6
  go_wp2_with fail
  generalize hW : w.alloc (Obj.cells (madeCells #[Value.int IntKind.i64 0, Value.slice none 0 0] (l.length * 2)) 37) = W0
  have hBl : Below w.heap.size w W0 := by subst hW; go_grown
  have hBk : Blk W0 w.heap.size 37 (l.length * 2) := by subst hW; have := Blk.alloc w (madeCells #[Value.int IntKind.i64 0, Value.slice none 0 0] (l.length * 2)) 37; rwa [size_madeCells] at this
  clear hW hmk
  have HZ := Lib.hid hz; clear hz
  go_loopw [4] (fun i wr => ∃ (j : Nat), j ≤ l.length ∧ i = .int .i64 j ∧ Fil ELoss 2 wr w.heap.size 37 (l.length * 2) (l.take j) ∧ Below w.heap.size w wr) (fun i _ => l.length - (intOf i).toNat)
  case atStart => exact ⟨0, Nat.zero_le _, rfl, Fil.start hBk, hBl⟩
  case round =>
    obtain ⟨j, hj, rfl, hf, hb⟩ := hrel
    have hbs := hb.size
    by_cases hlt : j < l.length
    · obtain ⟨b, o, a', cap', rfl, hbl, d0, d1, hi, hq⟩ := (hr.below ELoss.loc hb hB).loss j hlt
      go_wp2_with fail
      refine (toLoss_calls l[j] a' cap' B _ hq hi (by omega) (by have := HZ.out; have := szLo_get l j hlt; omega)).mono ?_
      rintro e w2 ⟨a2, rfl, hown, hb2⟩
      have hbk2 : Blk w2 w.heap.size 37 (l.length * 2) := hf.1.below hb2 hf.1.unf.lt
      have hfz := fun i => hbk2.frozen i
      obtain ⟨x0, hx0⟩ := hbk2.cell (j * 2) (by omega)
      obtain ⟨x1, hx1⟩ := hbk2.cell (j * 2 + 1) (by omega)
      have HB := Lib.hid hb2; clear hb2
      go_wp2_with fail
      go_roundw
      case rel =>
        refine ⟨j + 1, by omega, by go_num, ?_, ?_⟩
        · rw [take_snoc l j hlt]
          have hlj : j * 2 = (l.take j).length * 2 := by rw [List.length_take]; omega
          obtain ⟨G, g1, g2, g3⟩ := hown
          have hne : ∀ f ∈ G, f ≠ w.heap.size := fun f hf' => by have := (g3 f hf').1; have := hf.1.unf.lt; omega
          exact hf.step ELoss.loc (st2_blk hbk2) (fun f h1 h2 => (st2_heap f h1).trans (HB.out.block f h2)) (fun i hi => (st2_miss i (by omega)).trans (World.cell?_of_block (w := wr) (a := ⟨w.heap.size, i, none⟩) (HB.out.block _ hf.1.unf.lt))) hlj (G := G)
            ⟨st2_hit0 hbk2 (by omega), hi, a2, _, st2_hit1 hbk2 (by omega), g1.agree EStep.loc (fun f hf' => st2_heap f (hne f hf'))⟩ g2 (fun f hf' => ⟨(g3 f hf').1, (g3 f hf').2.2.agree (st2_heap f (hne f hf'))⟩)
        · exact (hb.trans (HB.out.mono hbs)).trans (st2_below _ (Nat.le_refl _))
      case measure => simp [intOf]; omega
    · have hjj : l.length = j := by omega
      have HJ := Lib.hid hjj; clear hjj
      go_wp2_with fail
      go_ret
      refine ⟨_, rfl, ?_, hb⟩
      have h := HJ.out
      have hf' := hf; rw [← h, List.take_length] at hf'
      exact hf'.done (Nat.le_refl _) (by unfold maxLen; omega)
theorem eqStep_calls (s : St) (w : World) :
    Calls Try.prog 36 #[.agg #[.int .i64 s.1, .bool s.2], .agg #[.int .i64 s.1, .bool s.2]] w fun e w' => e = .returned (.bool true) ∧ Below w.heap.size w w' := by
  go_enter Try.func36, Try.ntmps36
  go_wp2
  go_ret
  exact ⟨rfl, by go_grown⟩
theorem eqStepS_calls (l : List St) (a a' : Option Addr) (cap cap' : Nat) (B : Nat) (w : World) (hr : Rd EStep 2 w B a cap l) (hr' : Rd EStep 2 w B a' cap' l) (hB : B ≤ w.heap.size) :
    Calls Try.prog 31 #[.slice a l.length cap, .slice a' l.length cap'] w fun e w' => e = .returned (.bool true) ∧ Below w.heap.size w w' := by
  obtain ⟨hl1, hl2⟩ := hr.len
  go_enter Try.func31, Try.ntmps31
  go_wp2_with fail
  go_loopw [5] (fun i wr => ∃ (j : Nat), j ≤ l.length ∧ i = .int .i64 j ∧ Below w.heap.size w wr) (fun i _ => l.length - (intOf i).toNat)
  case atStart => exact ⟨0, Nat.zero_le _, rfl, Below.refl _ _⟩
  case round =>
    obtain ⟨j, hj, rfl, hb⟩ := hrel
    have hbs := hb.size
    by_cases hlt : j < l.length
    · obtain ⟨b, o, rfl, hbl, d0, d1, hi⟩ := (hr.below EStep.loc hb hB).step j hlt
      obtain ⟨b', o', rfl, hbl', d0', d1', hi'⟩ := (hr'.below EStep.loc hb hB).step j hlt
      have hlt1 : b < wr.heap.size := by omega
      have hlt2 : b' < wr.heap.size := by omega
      go_wp2_with fail
      go_region_held3 (fun w' => (∀ b o, b < wr.heap.size → w'.cell? ⟨b, o, none⟩ = wr.cell? ⟨b, o, none⟩) ∧ Below (wr.heap.size) wr w') (first | exact ⟨fun _ _ _ => rfl, (Below.refl _ _).drew⟩ | exact keep_step (by assumption) (Below.drew (Below.refl _ _)) (Nat.le_refl _) | exact keep_step (by assumption) (by assumption) (by first | omega | (simp only [World.size_drew]; omega) | (simp only [size_alloc]; omega) | (simp only [World.size_drew, size_alloc]; omega) | (have := (‹(_ ∧ Below (wr.heap.size) wr _)›).2.size; first | omega | (simp only [World.size_drew]; omega) | (simp only [size_alloc]; omega) | (simp only [World.size_drew, size_alloc]; omega) | (simp only [World.size_drew] at this; omega) | (simp only [size_alloc] at this; omega) | (simp only [World.size_drew, size_alloc] at this; omega))) | exact keep_step (by assumption) (below1 _ _) (by first | omega | (simp only [World.size_drew]; omega) | (simp only [size_alloc]; omega) | (simp only [World.size_drew, size_alloc]; omega) | (have := (‹(_ ∧ Below (wr.heap.size) wr _)›).2.size; first | omega | (simp only [World.size_drew]; omega) | (simp only [size_alloc]; omega) | (simp only [World.size_drew, size_alloc]; omega) | (simp only [World.size_drew] at this; omega) | (simp only [size_alloc] at this; omega) | (simp only [World.size_drew, size_alloc] at this; omega)))) (first | (go_at_call 36; refine (eqStep_calls l[j] _).mono ?_; rintro e w2 ⟨rfl, hb2⟩))
      go_wp2_with fail
      go_roundw
      case rel => exact ⟨j + 1, by omega, by go_num, below_drawn hb hb2 (by simp only [World.size_drew]; omega)⟩
      case measure => simp [intOf]; omega
    · go_wp2_with fail
      go_ret
      exact ⟨rfl, hb⟩
theorem eqLoss_calls (x : Lo) (a a' : Option Addr) (cap cap' : Nat) (B : Nat) (w : World) (hr : Rd EStep 2 w B a cap x.2) (hr' : Rd EStep 2 w B a' cap' x.2) (hB : B ≤ w.heap.size) :
    Calls Try.prog 18 #[.agg #[.int .i64 x.1, .slice a x.2.length cap], .agg #[.int .i64 x.1, .slice a' x.2.length cap']] w fun e w' => e = .returned (.bool true) ∧ Below w.heap.size w w' := by
  go_enter Try.func18, Try.ntmps18
  go_wp2_with fail
  refine (eqStepS_calls x.2 a a' cap cap' B _ (hr.below EStep.loc (below2 _ _ _) hB) (hr'.below EStep.loc (below2 _ _ _) hB) (by simp; omega)).mono ?_
  rintro e w2 ⟨rfl, hb2⟩
  go_wp2_with fail
  go_ret
  exact ⟨rfl, below_step (below2 _ _ _) hb2 (by simp; omega)⟩
theorem eqLossS_calls (l : List Lo) (a a' : Option Addr) (cap cap' : Nat) (B : Nat) (w : World) (hr : Rd ELoss 2 w B a cap l) (hr' : Rd ELoss 2 w B a' cap' l) (hB : B ≤ w.heap.size) :
    Calls Try.prog 8 #[.slice a l.length cap, .slice a' l.length cap'] w fun e w' => e = .returned (.bool true) ∧ Below w.heap.size w w' := by
  obtain ⟨hl1, hl2⟩ := hr.len
  go_enter Try.func8, Try.ntmps8
  go_wp2_with fail
  go_loopw [5] (fun i wr => ∃ (j : Nat), j ≤ l.length ∧ i = .int .i64 j ∧ Below w.heap.size w wr) (fun i _ => l.length - (intOf i).toNat)
  case atStart => exact ⟨0, Nat.zero_le _, rfl, Below.refl _ _⟩
  case round =>
    obtain ⟨j, hj, rfl, hb⟩ := hrel
    have hbs := hb.size
    by_cases hlt : j < l.length
    · obtain ⟨b, o, a2, cap2, rfl, hbl, d0, d1, hi, hq⟩ := (hr.below ELoss.loc hb hB).loss j hlt
      obtain ⟨b', o', a3, cap3, rfl, hbl', d0', d1', hi', hq'⟩ := (hr'.below ELoss.loc hb hB).loss j hlt
      have hlt1 : b < wr.heap.size := by omega
      have hlt2 : b' < wr.heap.size := by omega
      go_wp2_with fail
      go_region_held3 (fun w' => (∀ b o, b < wr.heap.size → w'.cell? ⟨b, o, none⟩ = wr.cell? ⟨b, o, none⟩) ∧ Below (wr.heap.size) wr w') (first | exact ⟨fun _ _ _ => rfl, (Below.refl _ _).drew⟩ | exact keep_step (by assumption) (Below.drew (Below.refl _ _)) (Nat.le_refl _) | exact keep_step (by assumption) (by assumption) (by first | omega | (simp only [World.size_drew]; omega) | (simp only [size_alloc]; omega) | (simp only [World.size_drew, size_alloc]; omega) | (have := (‹(_ ∧ Below (wr.heap.size) wr _)›).2.size; first | omega | (simp only [World.size_drew]; omega) | (simp only [size_alloc]; omega) | (simp only [World.size_drew, size_alloc]; omega) | (simp only [World.size_drew] at this; omega) | (simp only [size_alloc] at this; omega) | (simp only [World.size_drew, size_alloc] at this; omega))) | exact keep_step (by assumption) (below1 _ _) (by first | omega | (simp only [World.size_drew]; omega) | (simp only [size_alloc]; omega) | (simp only [World.size_drew, size_alloc]; omega) | (have := (‹(_ ∧ Below (wr.heap.size) wr _)›).2.size; first | omega | (simp only [World.size_drew]; omega) | (simp only [size_alloc]; omega) | (simp only [World.size_drew, size_alloc]; omega) | (simp only [World.size_drew] at this; omega) | (simp only [size_alloc] at this; omega) | (simp only [World.size_drew, size_alloc] at this; omega)))) (first | (go_at_call 18; refine (eqLoss_calls l[j] a2 a3 cap2 cap3 B _ ?_ ?_ ?_).mono ?_; (exact hq.below EStep.loc (Below.refl _ _).drew hB); (exact hq'.below EStep.loc (Below.refl _ _).drew hB); (simp only [World.size_drew]; omega); rintro e w2 ⟨rfl, hb2⟩))
      go_wp2_with fail
      go_roundw
      case rel => exact ⟨j + 1, by omega, by go_num, below_drawn hb hb2 (by simp only [World.size_drew]; omega)⟩
      case measure => simp [intOf]; omega
    · go_wp2_with fail
      go_ret
      exact ⟨rfl, hb⟩
end Go.Proofs.Ytmajklgjmghjlaa
