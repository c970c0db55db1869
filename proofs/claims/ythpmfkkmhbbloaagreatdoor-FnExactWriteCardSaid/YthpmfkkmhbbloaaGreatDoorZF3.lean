/- Texts of this proof, merged: LawVal, OpenL, Same2, Num. No condition beyond what each theorem states. -/
import Derived.Test.YthpmfkkmhbbloaaGreatDoorRows
import Derived.WalkKit
import Derived.ProofKit
import Derived.OpenShut
import Derived.Handy
import Derived.Lib.Hide
import Derived.Lib.SmallJoins
import Derived.Deep.RegionHeld3
import Derived.Test.YthpmfkkmhbbloaaGreatDoorZF1
import Derived.Deep.QuietTactic
import Derived.BigQuiet
import Derived.Test.YthpmfkkmhbbloaaGreatDoorZF2
import Derived.Laws.BytesArg
import Derived.Lib.ItoaNum
import Derived.Lib.AppendIntMem
import Derived.Test.YthpmfkkmhbbloaaGreatDoorShelf
set_option linter.unusedSimpArgs false
set_option linter.unnecessarySimpa false
namespace Go.Proofs.YthpmfkkmhbbloaaGreatDoor
open Go.ChangeShapes Go.WideShapes Go.ChangeAt Go.RowKit Go.Joins
set_option linter.unusedVariables false
set_option maxRecDepth 100000
theorem szValS_of (l : List T) (IH : Hid (∀ t ∈ l, ∀ (a : Option Addr) (cap : Nat) (left : Int) (B : Nat) (w : World), R w B a cap t.l → Wf t → B ≤ w.heap.size → 0 ≤ left → left ≤ 1048576 →
      Calls Tryz.prog 5 #[.agg #[.int .i64 t.k, .int .i64 t.n, .int .i64 t.x, .string t.s, .slice a t.l.length cap], .int .i64 left] w fun e w' => ∃ r : Int, e = .returned (.int .i64 r) ∧ r ≤ left ∧ -1 ≤ r ∧ (0 ≤ r → (T.sz t : Int) + r = left) ∧ Below w.heap.size w w'))
    (a : Option Addr) (cap : Nat) (left : Int) (B : Nat) (w : World) (hr : R w B a cap l) (hB : B ≤ w.heap.size) (h0 : 0 ≤ left) (h1 : left ≤ 1048576) :
    Calls Tryz.prog 16 #[.slice a l.length cap, .int .i64 left] w fun e w' => ∃ r : Int, e = .returned (.int .i64 r) ∧ r ≤ left ∧ -1 ≤ r ∧ (0 ≤ r → (T.szL l : Int) + r = left) ∧ Below w.heap.size w w' := by
  obtain ⟨hl1, hl2⟩ := hr.len
  by_cases hlen : left < l.length
  · go_enter Tryz.func16, Tryz.ntmps16
    go_wp2
    go_ret
    exact ⟨_, rfl, by omega, by omega, fun h => by omega, Below.refl _ _⟩
  have hg : ¬ (left - (l.length : Int) < 0) := by omega
  go_enter Tryz.func16, Tryz.ntmps16
  go_wp2
  go_loopw [1, 5, 23] (fun m i _ wr => ∃ (j : Nat) (r : Int), j ≤ l.length ∧ i = .int .i64 j ∧ m = .int .i64 r ∧ 0 ≤ r ∧ r ≤ left ∧ (l.length : Int) + (T.szL (l.take j) : Int) + r = left + j ∧ Below w.heap.size w wr) (fun _ i _ _ => l.length - (intOf i).toNat)
  case atStart => exact ⟨0, left - l.length, Nat.zero_le _, rfl, by go_num, by omega, by omega, by simp [T.szL]; omega, Below.refl _ _⟩
  case round =>
    obtain ⟨j, r, hj, rfl, rfl, hr0, hr1, hsum, hb⟩ := hrel
    have HS := Lib.hid hsum; clear hsum
    have hbs := hb.size
    by_cases hlt : j < l.length
    · have hR' := hr.below hb hB
      obtain ⟨b, o, a', cap', rfl, hbl, d0, d1, d2, d3, d4, hwf, hr'⟩ := hR'.get j hlt
      have HT := Lib.hid (T.szL_take_succ l j hlt)
      go_wp2_with fail
      refine (IH.out l[j] (List.getElem_mem hlt) a' cap' r B _ hr' hwf (by omega) hr0 (by omega)).mono ?_
      rintro e w2 ⟨r2, rfl, g1, g2, g3, hb2⟩
      by_cases hneg : r2 < 0
      · go_wp2_with fail
        go_ret
        exact ⟨_, rfl, by omega, by omega, fun h => by omega, hb.trans (hb2.mono hbs)⟩
      · have g3' := g3 (by omega)
        have G := Lib.hid g3'; clear g3 g3'
        go_wp2_with fail
        all_goals go_roundw
        case rel => exact ⟨j + 1, r2, by omega, by go_num, rfl, by omega, by omega, by rw [HT.out]; have := G.out; have := HS.out; omega, hb.trans (hb2.mono hbs)⟩
        case measure => simp [intOf]; omega
    · have hjj : l.length = j := by omega
      have HJ := Lib.hid hjj; clear hjj
      go_wp2_with fail
      go_ret
      refine ⟨_, rfl, hr1, by omega, fun _ => ?_, hb⟩
      have h := HS.out; rw [← HJ.out, List.take_length] at h; omega
theorem szVal_calls : ∀ t : T, ∀ (a : Option Addr) (cap : Nat) (left : Int) (B : Nat) (w : World), R w B a cap t.l → Wf t → B ≤ w.heap.size → 0 ≤ left → left ≤ 1048576 →
      Calls Tryz.prog 5 #[.agg #[.int .i64 t.k, .int .i64 t.n, .int .i64 t.x, .string t.s, .slice a t.l.length cap], .int .i64 left] w fun e w' => ∃ r : Int, e = .returned (.int .i64 r) ∧ r ≤ left ∧ -1 ≤ r ∧ (0 ≤ r → (T.sz t : Int) + r = left) ∧ Below w.heap.size w w' := by
  intro t
  induction t using T.ind with
  | h k n x s l ih =>
    intro a cap left B w hr hwf hB h0 h1
    have IH := Lib.hid ih; clear ih
    have hs := hwf.size; clear hwf
    simp only [T.k, T.n, T.x, T.s, T.l] at hr hs ⊢
    obtain ⟨hl1, hl2⟩ := hr.len
    by_cases hlen : left < s.size
    · go_enter Tryz.func5, Tryz.ntmps5
      go_wp2_with fail
      all_goals go_ret
      exact ⟨_, rfl, by omega, by omega, fun h => by omega, by go_grown⟩
    have hg : ¬ (left - (s.size : Int) < 0) := by omega
    go_enter Tryz.func5, Tryz.ntmps5
    go_wp2_with fail
    refine (szValS_of l IH a cap _ B _ ((hr.below (Below.alloc (Below.refl _ _) (Nat.le_refl _) _) hB)) (by simp; omega) (by omega) (by omega)).mono ?_
    rintro e w2 ⟨r2, rfl, g1, g2, g3, hb2⟩
    have HB := Lib.hid hb2; clear hb2
    by_cases hneg : r2 < 0
    · go_wp2_with fail
      go_ret
      exact ⟨_, rfl, by omega, by omega, fun h => by omega, (Below.alloc (Below.refl _ _) (Nat.le_refl _) _).trans (HB.out.mono (by simp))⟩
    · have g3' := g3 (by omega)
      have G := Lib.hid g3'; clear g3 g3'
      go_wp2_with fail
      go_ret
      exact ⟨_, rfl, by omega, by omega, fun _ => by have := G.out; simp only [T.sz]; omega, (Below.alloc (Below.refl _ _) (Nat.le_refl _) _).trans (HB.out.mono (by simp))⟩
theorem info_Val : (Tryz.prog.info? 29).map (fun i => (i.zero, i.size, i.bytes)) = some (some (.agg #[.int .i64 0, .int .i64 0, .int .i64 0, .string ⟨#[]⟩, .slice none 0 0]), 5, 64) := by kernel_rfl
theorem toValS_of (l : List T) (IH : Hid (∀ t ∈ l, ∀ (a : Option Addr) (cap : Nat) (B : Nat) (w : World), R w B a cap t.l → Wf t → B ≤ w.heap.size → T.sz t ≤ 1048576 →
      Calls Tryz.prog 7 #[.agg #[.int .i64 t.k, .int .i64 t.n, .int .i64 t.x, .string t.s, .slice a t.l.length cap]] w fun e w' => ∃ a', e = .returned (.agg #[.int .i64 t.k, .int .i64 t.n, .int .i64 t.x, .string t.s, .slice a' t.l.length t.l.length]) ∧ Own w' w.heap.size w'.heap.size a' t.l.length t.l ∧ Below w.heap.size w w'))
    (a : Option Addr) (cap : Nat) (B : Nat) (w : World) (hr : R w B a cap l) (hB : B ≤ w.heap.size) (hz : T.szL l ≤ 1048576) :
    Calls Tryz.prog 21 #[.slice a l.length cap] w fun e w' => ∃ a', e = .returned (.slice a' l.length l.length) ∧ Own w' w.heap.size w'.heap.size a' l.length l ∧ Below w.heap.size w w' := by
  obtain ⟨hl1, hl2⟩ := hr.len
  have hll := T.length_le_szL l
  have hmk := fun w => make_run Tryz.underlying27 info_Val rfl l.length (by omega) (by omega) w
  go_enter Tryz.func21, Tryz.ntmps21
  go_wp2_with fail
  generalize hW : w.alloc (Obj.cells (madeCells #[Value.int IntKind.i64 0, Value.int IntKind.i64 0, Value.int IntKind.i64 0, Value.string { data := #[] }, Value.slice none 0 0] (l.length * 5)) 29) = W0
  have hBl : Below w.heap.size w W0 := by subst hW; go_grown
  have hBk : Blk W0 w.heap.size 29 (l.length * 5) := by subst hW; have := Blk.alloc w (madeCells #[Value.int IntKind.i64 0, Value.int IntKind.i64 0, Value.int IntKind.i64 0, Value.string { data := #[] }, Value.slice none 0 0] (l.length * 5)) 29; rwa [size_madeCells] at this
  clear hW hmk
  have HZ := Lib.hid hz; clear hz
  go_loopw [4] (fun i wr => ∃ (j : Nat), j ≤ l.length ∧ i = .int .i64 j ∧ Filling wr w.heap.size 29 (l.length * 5) (l.take j) ∧ Below w.heap.size w wr) (fun i _ => l.length - (intOf i).toNat)
  case atStart => exact ⟨0, Nat.zero_le _, rfl, Filling.start hBk, hBl⟩
  case round =>
    obtain ⟨j, hj, rfl, hf, hb⟩ := hrel
    have hbs := hb.size
    by_cases hlt : j < l.length
    · have hR' := hr.below hb hB
      obtain ⟨b, o, a', cap', rfl, hbl, d0, d1, d2, d3, d4, hwf, hr'⟩ := hR'.get j hlt
      go_wp2_with fail
      refine (IH.out l[j] (List.getElem_mem hlt) a' cap' B _ hr' hwf (by omega) (by have := HZ.out; have := T.sz_get l j hlt; omega)).mono ?_
      rintro e w2 ⟨a2, rfl, hown, hb2⟩
      have hbk2 : Blk w2 w.heap.size 29 (l.length * 5) := hf.1.below hb2 hf.1.unf.lt
      have hfz := fun i => hbk2.frozen i
      obtain ⟨x0, hx0⟩ := hbk2.cell (j * 5) (by omega)
      obtain ⟨x1, hx1⟩ := hbk2.cell (j * 5 + 1) (by omega)
      obtain ⟨x2, hx2⟩ := hbk2.cell (j * 5 + 2) (by omega)
      obtain ⟨x3, hx3⟩ := hbk2.cell (j * 5 + 3) (by omega)
      obtain ⟨x4, hx4⟩ := hbk2.cell (j * 5 + 4) (by omega)
      have HB := Lib.hid hb2; clear hb2
      go_wp2_with fail
      go_roundw
      case rel =>
        refine ⟨j + 1, by omega, by go_num, ?_, ?_⟩
        · rw [take_snoc l j hlt]
          exact hf.step HB.out hwf hown (by rw [List.length_take]; omega) (by omega)
        · exact (hb.trans (HB.out.mono hbs)).trans (st5_below _ (Nat.le_refl _))
      case measure => simp [intOf]; omega
    · have hjj : l.length = j := by omega
      have HJ := Lib.hid hjj; clear hjj
      go_wp2_with fail
      go_ret
      refine ⟨_, rfl, ?_, hb⟩
      have h := HJ.out
      have hf' := hf; rw [← h, List.take_length] at hf'
      exact hf'.done (Nat.le_refl _) (by unfold maxLen; omega)
theorem toVal_calls : ∀ t : T, ∀ (a : Option Addr) (cap : Nat) (B : Nat) (w : World), R w B a cap t.l → Wf t → B ≤ w.heap.size → T.sz t ≤ 1048576 →
      Calls Tryz.prog 7 #[.agg #[.int .i64 t.k, .int .i64 t.n, .int .i64 t.x, .string t.s, .slice a t.l.length cap]] w fun e w' => ∃ a', e = .returned (.agg #[.int .i64 t.k, .int .i64 t.n, .int .i64 t.x, .string t.s, .slice a' t.l.length t.l.length]) ∧ Own w' w.heap.size w'.heap.size a' t.l.length t.l ∧ Below w.heap.size w w' := by
  intro t
  induction t using T.ind with
  | h k n x s l ih =>
    intro a cap B w hr hwf hB hz
    have IH := Lib.hid ih; clear ih
    simp only [T.k, T.n, T.x, T.s, T.l, T.sz] at hr hz ⊢
    go_enter Tryz.func7, Tryz.ntmps7
    go_wp2_with fail
    generalize hW : (((w.alloc (Obj.cells #[Value.int IntKind.i64 k, Value.int IntKind.i64 n, Value.int IntKind.i64 x, Value.string s, Value.slice a l.length cap] 24)).alloc (Obj.cells #[Value.int IntKind.i64 0, Value.int IntKind.i64 0, Value.int IntKind.i64 0, Value.string { data := #[] }, Value.slice none 0 0] 29)).alloc (Obj.cells #[Value.int IntKind.i64 k, Value.int IntKind.i64 n, Value.int IntKind.i64 x, Value.string s, Value.slice none 0 0] 29)) = W0
    have hBl : Below w.heap.size w W0 := by subst hW; go_grown
    have hN : w.heap.size + 3 ≤ W0.heap.size := by subst hW; simp
    have q1 : Is W0 (w.heap.size + 1) 29 #[Value.int IntKind.i64 0, Value.int IntKind.i64 0, Value.int IntKind.i64 0, Value.string { data := #[] }, Value.slice none 0 0] := by
      subst hW; exact Is.alloc (by have := Is.new (w.alloc (Obj.cells #[Value.int IntKind.i64 k, Value.int IntKind.i64 n, Value.int IntKind.i64 x, Value.string s, Value.slice a l.length cap] 24)) #[Value.int IntKind.i64 0, Value.int IntKind.i64 0, Value.int IntKind.i64 0, Value.string { data := #[] }, Value.slice none 0 0] 29; rwa [size_alloc] at this) _
    have q2 : Is W0 (w.heap.size + 1 + 1) 29 #[Value.int IntKind.i64 k, Value.int IntKind.i64 n, Value.int IntKind.i64 x, Value.string s, Value.slice none 0 0] := by
      subst hW; have := Is.new ((w.alloc (Obj.cells #[Value.int IntKind.i64 k, Value.int IntKind.i64 n, Value.int IntKind.i64 x, Value.string s, Value.slice a l.length cap] 24)).alloc (Obj.cells #[Value.int IntKind.i64 0, Value.int IntKind.i64 0, Value.int IntKind.i64 0, Value.string { data := #[] }, Value.slice none 0 0] 29)) #[Value.int IntKind.i64 k, Value.int IntKind.i64 n, Value.int IntKind.i64 x, Value.string s, Value.slice none 0 0] 29; rwa [size_alloc, size_alloc] at this
    clear hW
    refine (toValS_of l IH a cap B _ (hr.below hBl hB) (by omega) (by omega)).mono ?_
    rintro e w2 ⟨a2, rfl, hown, hb2⟩
    have p1 := q1.below hb2 (by omega)
    have p2 := q2.below hb2 (by omega)
    have f1 := fun i => p1.frozen i
    have f2 := fun i => p2.frozen i
    have r0 := p1.cell 0 rfl
    have r1 := p1.cell 1 rfl
    have r2 := p1.cell 2 rfl
    have r3 := p1.cell 3 rfl
    have r4 := p1.cell 4 rfl
    have o0 := p2.cell 0 rfl
    have o1 := p2.cell 1 rfl
    have o2 := p2.cell 2 rfl
    have o3 := p2.cell 3 rfl
    have o4 := p2.cell 4 rfl
    have HB := Lib.hid hb2; clear hb2
    have hbs := HB.out.size
    go_wp2_with fail
    have hk : Blk (w2.setCell ⟨w.heap.size + 1 + 1, 4, none⟩ (.slice a2 l.length l.length)) (w.heap.size + 1) 29 5 := p1.blk.agree (heap_miss _ _ _ _ (by omega) _)
    obtain ⟨e0, e1, e2, e3, e4⟩ := st5_reads (o := 0) (v0 := .int .i64 k) (v1 := .int .i64 n) (v2 := .int .i64 x) (v3 := .string s) (v4 := .slice a2 l.length l.length) hk (by omega)
    have hbel := (st5_below (w := w2.setCell ⟨w.heap.size + 1 + 1, 4, none⟩ (.slice a2 l.length l.length)) (g := w.heap.size + 1) (o := 0) (v0 := .int .i64 k) (v1 := .int .i64 n) (v2 := .int .i64 x) (v3 := .string s) (v4 := .slice a2 l.length l.length) w.heap.size (by omega))
    have hold : ∀ f, W0.heap.size ≤ f → (st5 (w2.setCell ⟨w.heap.size + 1 + 1, 4, none⟩ (.slice a2 l.length l.length)) (w.heap.size + 1) 0 (.int .i64 k) (.int .i64 n) (.int .i64 x) (.string s) (.slice a2 l.length l.length)).heap[f]? = w2.heap[f]? := fun f hf => (st5_heap f (by omega)).trans (heap_miss _ _ _ _ (by omega) _)
    have hsz : (st5 (w2.setCell ⟨w.heap.size + 1 + 1, 4, none⟩ (.slice a2 l.length l.length)) (w.heap.size + 1) 0 (.int .i64 k) (.int .i64 n) (.int .i64 x) (.string s) (.slice a2 l.length l.length)).heap.size = w2.heap.size := by rw [st5_size, size_set]
    simp only [st5, Nat.zero_add] at e0 e1 e2 e3 e4 hbel hold hsz
    refine bodyPost_ret (v := .agg #[.int .i64 k, .int .i64 n, .int .i64 x, .string s, .slice a2 l.length l.length]) (by simp [results, Tryz.results7, go_sem, e0, e1, e2, e3, e4]) rfl ⟨a2, rfl, ?_, ?_⟩
    · rw [hsz]
      exact (hown.agree (fun f h1 h2 => hold f h1)).more (by omega) (Nat.le_refl _)
    · exact (hBl.trans (HB.out.mono (by omega))).trans ((Below.setCell (Below.refl _ _) (p := ⟨w.heap.size + 1 + 1, 4, none⟩) (by simp; omega) _).trans hbel)
theorem eqValS_of (l : List T) (IH : Hid (∀ t ∈ l, ∀ (a a' : Option Addr) (cap cap' : Nat) (B : Nat) (w : World), R w B a cap t.l → R w B a' cap' t.l → Wf t → B ≤ w.heap.size →
      Calls Tryz.prog 9 #[.agg #[.int .i64 t.k, .int .i64 t.n, .int .i64 t.x, .string t.s, .slice a t.l.length cap], .agg #[.int .i64 t.k, .int .i64 t.n, .int .i64 t.x, .string t.s, .slice a' t.l.length cap']] w fun e w' => e = .returned (.bool true) ∧ Below w.heap.size w w'))
    (a a' : Option Addr) (cap cap' : Nat) (B : Nat) (w : World) (hr : R w B a cap l) (hr' : R w B a' cap' l) (hB : B ≤ w.heap.size) :
    Calls Tryz.prog 26 #[.slice a l.length cap, .slice a' l.length cap'] w fun e w' => e = .returned (.bool true) ∧ Below w.heap.size w w' := by
  obtain ⟨hl1, hl2⟩ := hr.len
  go_enter Tryz.func26, Tryz.ntmps26
  go_wp2_with fail
  go_loopw [5] (fun i wr => ∃ (j : Nat), j ≤ l.length ∧ i = .int .i64 j ∧ Below w.heap.size w wr) (fun i _ => l.length - (intOf i).toNat)
  case atStart => exact ⟨0, Nat.zero_le _, rfl, Below.refl _ _⟩
  case round =>
    obtain ⟨j, hj, rfl, hb⟩ := hrel
    have hbs := hb.size
    by_cases hlt : j < l.length
    · obtain ⟨b, o, a2, cap2, rfl, hbl, d0, d1, d2, d3, d4, hwf, hq⟩ := (hr.below hb hB).get j hlt
      obtain ⟨b', o', a3, cap3, rfl, hbl', d0', d1', d2', d3', d4', hwf', hq'⟩ := (hr'.below hb hB).get j hlt
      have hlt1 : b < wr.heap.size := by omega
      have hlt2 : b' < wr.heap.size := by omega
      go_wp2_with fail
      go_region_held3 (fun w' => (∀ b o, b < wr.heap.size → w'.cell? ⟨b, o, none⟩ = wr.cell? ⟨b, o, none⟩) ∧ Below (wr.heap.size) wr w') (first | exact ⟨fun _ _ _ => rfl, (Below.refl _ _).drew⟩ | exact keep_step (by assumption) (Below.drew (Below.refl _ _)) (Nat.le_refl _) | exact keep_step (by assumption) (by assumption) (by first | omega | (simp only [World.size_drew]; omega) | (simp only [size_alloc]; omega) | (simp only [World.size_drew, size_alloc]; omega) | (have := (‹(_ ∧ Below (wr.heap.size) wr _)›).2.size; first | omega | (simp only [World.size_drew]; omega) | (simp only [size_alloc]; omega) | (simp only [World.size_drew, size_alloc]; omega) | (simp only [World.size_drew] at this; omega) | (simp only [size_alloc] at this; omega) | (simp only [World.size_drew, size_alloc] at this; omega))) | exact keep_step (by assumption) (below1 _ _) (by first | omega | (simp only [World.size_drew]; omega) | (simp only [size_alloc]; omega) | (simp only [World.size_drew, size_alloc]; omega) | (have := (‹(_ ∧ Below (wr.heap.size) wr _)›).2.size; first | omega | (simp only [World.size_drew]; omega) | (simp only [size_alloc]; omega) | (simp only [World.size_drew, size_alloc]; omega) | (simp only [World.size_drew] at this; omega) | (simp only [size_alloc] at this; omega) | (simp only [World.size_drew, size_alloc] at this; omega)))) (first | (go_at_call 9; refine (IH.out l[j] (List.getElem_mem hlt) a2 a3 cap2 cap3 B _ ?_ ?_ hwf ?_).mono ?_; (exact hq.below (Below.refl _ _).drew hB); (exact hq'.below (Below.refl _ _).drew hB); (simp only [World.size_drew]; omega); rintro e w2 ⟨rfl, hb2⟩))
      go_wp2_with fail
      go_roundw
      case rel => exact ⟨j + 1, by omega, by go_num, below_drawn hb hb2 (by simp only [World.size_drew]; omega)⟩
      case measure => simp [intOf]; omega
    · go_wp2_with fail
      go_ret
      exact ⟨rfl, hb⟩
theorem eqVal_calls : ∀ t : T, ∀ (a a' : Option Addr) (cap cap' : Nat) (B : Nat) (w : World), R w B a cap t.l → R w B a' cap' t.l → Wf t → B ≤ w.heap.size →
      Calls Tryz.prog 9 #[.agg #[.int .i64 t.k, .int .i64 t.n, .int .i64 t.x, .string t.s, .slice a t.l.length cap], .agg #[.int .i64 t.k, .int .i64 t.n, .int .i64 t.x, .string t.s, .slice a' t.l.length cap']] w fun e w' => e = .returned (.bool true) ∧ Below w.heap.size w w' := by
  intro t
  induction t using T.ind with
  | h k n x s l ih =>
    intro a a' cap cap' B w hr hr' hwf hB
    have IH := Lib.hid ih; clear ih
    simp only [T.k, T.n, T.x, T.s, T.l] at hr hr' ⊢
    go_enter Tryz.func9, Tryz.ntmps9
    go_wp2_with fail
    refine (eqValS_of l IH a a' cap cap' B _ (hr.below (below2 _ _ _) hB) (hr'.below (below2 _ _ _) hB) (by simp; omega)).mono ?_
    rintro e w2 ⟨rfl, hb2⟩
    go_wp2_with fail
    go_ret
    exact ⟨rfl, below_step (below2 _ _ _) hb2 (by simp; omega)⟩
end Go.Proofs.YthpmfkkmhbbloaaGreatDoor
namespace Go.Proofs.YthpmfkkmhbbloaaGreatDoor
open Go.ChangeShapes Go.WideShapes Go.ChangeAt Go.RowKit Go.Joins
set_option linter.unusedVariables false
set_option maxRecDepth 100000
section
variable {H : Type} {enc : TypeId × Value → H} {P : Program} {w : World} {base : Nat} {spare : Nat → Bool} {held : Bool}
theorem trod_sl {α : Type} {E : World → Nat → Nat → α → List Nat → Prop} {n : Nat} {t e : TypeId} (ht : P.underlying t = some (.slice e)) (hn : P.cellsOf e = n) (hpos : 0 < n)
    (hE : ∀ (fuel : Nat) (cs : List Value) (x : DataW H × List MemPlace), DataW.trod enc P w base spare held fuel e cs = some x → ∃ (y : α) (F : List Nat), cs.length = n ∧
      (∀ b o, (∀ i, i < n → w.cell? ⟨b, o + i, none⟩ = cs[i]?) → E w b o y F) ∧ ∀ f ∈ F, ∃ p ∈ x.2, p.block = f)
    (fuel : Nat) (cs : List Value) (x : DataW H × List MemPlace) (h : DataW.trod enc P w base spare held fuel t cs = some x) :
    ∃ (l : List α) (a : Option Addr) (cap : Nat) (F : List Nat), cs = [.slice a l.length cap] ∧ Sl E n w a cap l F ∧ ∀ f ∈ F, ∃ p ∈ x.2, p.block = f := by
  rcases DataW.trod_slice ht h with ⟨e4, -⟩ | ⟨a, len, cap, elems, rest, m', hn', e4, hy, -, hlc, hcm, hel, hget, -, -⟩
  · exact ⟨[], none, 0, [], e4, Sl.nil _ _ _ (by simp [maxLen]), by simp⟩
  · subst e4
    have key : ∀ j, j ≤ len → ∃ (l : List α) (F : List Nat), l.length = j ∧ Row E n w a.block a.off l F ∧ (∀ f ∈ F, ∃ p ∈ x.2, p.block = f) ∧ (0 < j → a = ⟨a.block, a.off, none⟩) := by
      intro j
      induction j with
      | zero => intro _; exact ⟨[], [], rfl, rfl, by simp, fun h => absurd h (by omega)⟩
      | succ j ihj =>
        intro hj
        obtain ⟨l, F, hll, hr, hF, ha⟩ := ihj (by omega)
        have hgj := hget j (by omega)
        have hsome : elems[j]? = some (elems[j]'(by omega)) := List.getElem?_eq_getElem (by omega)
        rw [hsome, hn] at hgj
        obtain ⟨cs', hc, ht'⟩ := Option.bind_eq_some_iff.1 hgj
        obtain ⟨y, F', hcl, hEy, hF'⟩ := hE m' cs' _ ht'
        obtain ⟨-, -, hcell⟩ := World.cells?_some hc
        have h0 := hcell 0 hpos
        have hspot : a = ⟨a.block, a.off, none⟩ := by
          by_cases hj0 : j = 0
          · subst hj0
            simp only [Nat.zero_mul, Addr.add, if_true] at h0
            rw [List.getElem?_eq_getElem (by omega)] at h0
            exact spot_none h0
          · exact ha (by omega)
        rw [hspot] at hcell
        simp only [add_none] at hcell
        refine ⟨l ++ [y], F ++ F', by simp [hll], Row.snoc hr ?_, ?_, fun _ => hspot⟩
        · rw [hll]
          exact hEy _ _ fun i hi => hcell i hi
        · intro f hf
          rcases List.mem_append.1 hf with hf | hf
          · exact hF f hf
          · obtain ⟨p, hp, hb⟩ := hF' f hf
            refine ⟨p, ?_, hb⟩
            rw [hy]
            simp only [List.mem_append, List.mem_flatMap]
            exact Or.inr ⟨_, Or.inl (List.getElem_mem (by omega)), hp⟩
    obtain ⟨l, F, hll, hr, hF, ha⟩ := key len (Nat.le_refl _)
    by_cases hle : l = []
    · subst hle
      simp only [List.length_nil] at hll
      subst hll
      exact ⟨[], some a, cap, [], rfl, Sl.nil _ _ _ hcm, by simp⟩
    · have hpos' : 0 < len := by
        rcases Nat.eq_zero_or_pos len with h0 | h0
        · exact absurd (List.eq_nil_of_length_eq_zero (by omega)) hle
        · exact h0
      refine ⟨l, some a, cap, a.block :: F, by rw [hll], ⟨by omega, hcm, fun h => absurd h hle, fun _ => ⟨a.block, a.off, F, by rw [← ha hpos'], rfl, hr⟩⟩, ?_⟩
      intro f hf
      rcases List.mem_cons.1 hf with rfl | hf
      · refine ⟨.cell a.block (a.off + 0), ?_, rfl⟩
        rw [hy, hn]
        simp only [List.mem_append]
        refine Or.inl ?_
        simp only [MemPlace.row, List.mem_map, List.mem_range]
        exact ⟨0, by rw [hel]; have := Nat.mul_le_mul (show 1 ≤ len + rest.length from by omega) (show 1 ≤ n from hpos); omega, rfl⟩
      · exact hF f hf
theorem trod_two {t : TypeId} {f0 f1 : Field} (ht : P.underlying t = some (.struct #[f0, f1])) (o0 : f0.offset = 0) (o1 : f1.offset = 1) (k0 : P.cellsOf f0.type = 1) (k1 : P.cellsOf f1.type = 1) (kt : P.cellsOf t = 2)
    {fuel : Nat} {cs : List Value} {x : DataW H × List MemPlace} (h : DataW.trod enc P w base spare held fuel t cs = some x) :
    ∃ c0 c1 y0 y1 n, cs = [c0, c1] ∧ x.2 = y0.2 ++ y1.2 ∧ DataW.trod enc P w base spare held n f0.type [c0] = some y0 ∧ DataW.trod enc P w base spare held n f1.type [c1] = some y1 := by
  obtain ⟨xs, n, rfl, rfl, hl, hxl, hg⟩ := DataW.trod_struct ht h
  rw [kt] at hl
  match cs, hl with
  | [c0, c1], _ =>
    match xs, hxl with
    | [y0, y1], _ =>
      refine ⟨c0, c1, y0, y1, n, rfl, by simp, ?_, ?_⟩
      · simpa [o0, k0] using hg 0 f0 rfl
      · simpa [o1, k1] using hg 1 f1 rfl
theorem trod_step {t : TypeId} {f0 f1 : Field} (ht : P.underlying t = some (.struct #[f0, f1])) (o0 : f0.offset = 0) (o1 : f1.offset = 1) (k0 : P.cellsOf f0.type = 1) (k1 : P.cellsOf f1.type = 1) (kt : P.cellsOf t = 2)
    (t0 : P.underlying f0.type = some (.int .i64)) (t1 : P.underlying f1.type = some .bool)
    (fuel : Nat) (cs : List Value) (x : DataW H × List MemPlace) (h : DataW.trod enc P w base spare held fuel t cs = some x) : ∃ (y : St) (F : List Nat), cs.length = 2 ∧
      (∀ b o, (∀ i, i < 2 → w.cell? ⟨b, o + i, none⟩ = cs[i]?) → EStep w b o y F) ∧ ∀ f ∈ F, ∃ p ∈ x.2, p.block = f := by
  obtain ⟨c0, c1, y0, y1, n, rfl, hx, g0, g1⟩ := trod_two ht o0 o1 k0 k1 kt h
  obtain ⟨k, e0, -, w0⟩ := DataW.trod_int t0 g0
  obtain ⟨b, e1, -⟩ := DataW.trod_bool t1 g1
  simp only [List.cons.injEq, and_true] at e0 e1
  subst e0 e1
  refine ⟨(k, b), [], rfl, fun bb o hc => ⟨rfl, ?_, ?_, I64.of_wf w0⟩, by simp⟩
  · (have h := hc 0 (by omega); first | exact h | (simp only [Nat.add_zero] at h; exact h) | (simp at h; exact h) | (simp; exact h))
  · (have h := hc 1 (by omega); first | exact h | (simp only [Nat.add_zero] at h; exact h) | (simp at h; exact h) | (simp; exact h))
theorem trod_loss {t ts : TypeId} {f0 f1 g0 g1 : Field} (ht : P.underlying t = some (.struct #[f0, f1])) (o0 : f0.offset = 0) (o1 : f1.offset = 1) (k0 : P.cellsOf f0.type = 1) (k1 : P.cellsOf f1.type = 1) (kt : P.cellsOf t = 2)
    (t0 : P.underlying f0.type = some (.int .i64)) (t1 : P.underlying f1.type = some (.slice ts))
    (hs : P.underlying ts = some (.struct #[g0, g1])) (q0 : g0.offset = 0) (q1 : g1.offset = 1) (j0 : P.cellsOf g0.type = 1) (j1 : P.cellsOf g1.type = 1) (js : P.cellsOf ts = 2)
    (u0 : P.underlying g0.type = some (.int .i64)) (u1 : P.underlying g1.type = some .bool)
    (fuel : Nat) (cs : List Value) (x : DataW H × List MemPlace) (h : DataW.trod enc P w base spare held fuel t cs = some x) : ∃ (y : Lo) (F : List Nat), cs.length = 2 ∧
      (∀ b o, (∀ i, i < 2 → w.cell? ⟨b, o + i, none⟩ = cs[i]?) → ELoss w b o y F) ∧ (∀ f ∈ F, ∃ p ∈ x.2, p.block = f) ∧
      (∃ a cap, cs = [.int .i64 y.1, .slice a y.2.length cap] ∧ I64 y.1 ∧ Sl EStep 2 w a cap y.2 F) := by
  obtain ⟨c0, c1, y0, y1, n, rfl, hx, r0, r1⟩ := trod_two ht o0 o1 k0 k1 kt h
  obtain ⟨k, e0, -, w0⟩ := DataW.trod_int t0 r0
  obtain ⟨l, a, cap, F, e1, hsl, hF⟩ := trod_sl t1 js (by omega) (fun fuel cs x h => trod_step hs q0 q1 j0 j1 js u0 u1 fuel cs x h) n _ _ r1
  simp only [List.cons.injEq, and_true] at e0 e1
  subst e0 e1
  refine ⟨(k, l), F, rfl, fun bb o hc => ⟨?_, I64.of_wf w0, a, cap, ?_, hsl⟩, ?_, a, cap, rfl, I64.of_wf w0, hsl⟩
  · (have h := hc 0 (by omega); first | exact h | (simp only [Nat.add_zero] at h; exact h) | (simp at h; exact h) | (simp; exact h))
  · (have h := hc 1 (by omega); first | exact h | (simp only [Nat.add_zero] at h; exact h) | (simp at h; exact h) | (simp; exact h))
  · intro f hf
    obtain ⟨p, hp, hb⟩ := hF f hf
    exact ⟨p, by rw [hx]; simp [hp], hb⟩
end
end Go.Proofs.YthpmfkkmhbbloaaGreatDoor
namespace Go.Proofs.YthpmfkkmhbbloaaGreatDoor
open Go.ChangeShapes Go.WideShapes Go.ChangeAt Go.RowKit Go.Joins
set_option linter.unusedVariables false
set_option maxRecDepth 100000
/-! Are two trees the same? -/
mutual
def sameT : T → T → Bool
  | .mk k n x s l, .mk k' n' x' s' l' => decide (k = k') && decide (n = n') && decide (x = x') && decide (s.data = s'.data) && sameTs l l'
def sameTs : List T → List T → Bool
  | [], [] => true
  | a :: r, b :: q => sameT a b && sameTs r q
  | [], _ :: _ => false
  | _ :: _, [] => false
end
theorem sameT_iff : ∀ a b : T, sameT a b = true ↔ a = b := by
  intro a
  induction a using T.ind with
  | h k n x s l ih =>
    intro b
    obtain ⟨k', n', x', s', l'⟩ := b
    have key : ∀ (r q : List T), (∀ t ∈ r, t ∈ l) → (sameTs r q = true ↔ r = q) := by
      intro r
      induction r with
      | nil => intro q _; cases q <;> simp [sameTs]
      | cons t r ihr =>
        intro q hm
        cases q with
        | nil => simp [sameTs]
        | cons u q =>
          rw [sameTs, Bool.and_eq_true, ih t (hm t (by simp)) u, ihr q (fun v hv => hm v (by simp [hv]))]
          simp
    rw [sameT]
    simp only [Bool.and_eq_true, decide_eq_true_eq, key l l' (fun _ h => h), T.mk.injEq]
    constructor
    · rintro ⟨⟨⟨⟨h1, h2⟩, h3⟩, h4⟩, h5⟩
      refine ⟨h1, h2, h3, ?_, h5⟩
      cases s; cases s'; simp at h4; rw [h4]
    · rintro ⟨h1, h2, h3, h4, h5⟩; exact ⟨⟨⟨⟨h1, h2⟩, h3⟩, by rw [h4]⟩, h5⟩
theorem sameT_true {a b : T} (h : a = b) : sameT a b = true := (sameT_iff a b).2 h
theorem sameT_false {a b : T} (h : ¬ a = b) : sameT a b = false := by
  rw [Bool.eq_false_iff]; exact fun e => h ((sameT_iff a b).1 e)
theorem sameTs_iff (r q : List T) : sameTs r q = true ↔ r = q := by
  have := sameT_iff (.mk 0 0 0 ⟨#[]⟩ r) (.mk 0 0 0 ⟨#[]⟩ q)
  rw [sameT] at this
  simpa using this
theorem sameTs_true {a b : List T} (h : a = b) : sameTs a b = true := (sameTs_iff a b).2 h
theorem sameTs_false {a b : List T} (h : ¬ a = b) : sameTs a b = false := by
  rw [Bool.eq_false_iff]; exact fun e => h ((sameTs_iff a b).1 e)
theorem sameT_comm (a b : T) : sameT a b = sameT b a := by
  by_cases h : a = b
  · rw [sameT_true h, sameT_true h.symm]
  · rw [sameT_false h, sameT_false (fun e => h e.symm)]
theorem T.ext_of {a b : T} (h1 : a.k = b.k) (h2 : a.n = b.n) (h3 : a.x = b.x) (h4 : a.s = b.s) (h5 : a.l = b.l) : a = b := by
  rw [← T.eta a, ← T.eta b, h1, h2, h3, h4, h5]
set_option maxHeartbeats 1000000 in
theorem spec_SameVal : ∀ t u : T, ∀ (a a' : Option Addr) (cap cap' B : Nat) (w : World), R w B a cap t.l → R w B a' cap' u.l → B ≤ w.heap.size →
    Calls Tryz.prog 102 #[.agg (cV t a cap), .agg (cV u a' cap')] w fun e w' => e = .returned (.bool (sameT t u)) ∧ Below w.heap.size w w' := by
  intro t
  induction t using T.ind with
  | h k n x s l ih =>
    intro u a a' cap cap' B w hr hr' hB
    have IH := Lib.hid ih; clear ih
    obtain ⟨k', n', x', s', l'⟩ := u
    simp only [cV, T.k, T.n, T.x, T.s, T.l] at hr hr' ⊢
    obtain ⟨hl1, hl2⟩ := hr.len
    obtain ⟨hm1, hm2⟩ := hr'.len
    have HR := Lib.hid hr; clear hr
    have HR' := Lib.hid hr'; clear hr'
    have H3 := Lib.hid (below2 w (.cells #[Value.int IntKind.i64 k, Value.int IntKind.i64 n, Value.int IntKind.i64 x, Value.string s, Value.slice a l.length cap] 29) (.cells #[Value.int IntKind.i64 k', Value.int IntKind.i64 n', Value.int IntKind.i64 x', Value.string s', Value.slice a' l'.length cap'] 29))
    by_cases hk : k = k'
    case neg =>
      have h1 : (k == k') = false := by simp [hk]
      have h2 : (k != k') = true := by simp [hk]
      have HE := Lib.hid (show sameT (T.mk k n x s l) (T.mk k' n' x' s' l') = false from sameT_false (fun e => hk (by injection e)))
      clear hk
      go_enter Tryz.func102, Tryz.ntmps102
      go_wp2_with fail
      go_ret
      exact ⟨ret_b HE.out.symm, H3.out⟩
    subst hk
    by_cases hk : n = n'
    case neg =>
      have h1 : (n == n') = false := by simp [hk]
      have h2 : (n != n') = true := by simp [hk]
      have HE := Lib.hid (show sameT (T.mk k n x s l) (T.mk k n' x' s' l') = false from sameT_false (fun e => hk (by injection e)))
      clear hk
      go_enter Tryz.func102, Tryz.ntmps102
      go_wp2_with fail
      go_ret
      exact ⟨ret_b HE.out.symm, H3.out⟩
    subst hk
    by_cases hk : x = x'
    case neg =>
      have h1 : (x == x') = false := by simp [hk]
      have h2 : (x != x') = true := by simp [hk]
      have HE := Lib.hid (show sameT (T.mk k n x s l) (T.mk k n x' s' l') = false from sameT_false (fun e => hk (by injection e)))
      clear hk
      go_enter Tryz.func102, Tryz.ntmps102
      go_wp2_with fail
      go_ret
      exact ⟨ret_b HE.out.symm, H3.out⟩
    subst hk
    by_cases hk : s = s'
    case neg =>
      have h1 := bytes_ne hk
      have h2 : (s.toList != s'.toList) = true := by simp [bne, h1]
      have HE := Lib.hid (show sameT (T.mk k n x s l) (T.mk k n x s' l') = false from sameT_false (fun e => hk (by injection e)))
      clear hk
      go_enter Tryz.func102, Tryz.ntmps102
      go_wp2_with fail
      go_ret
      exact ⟨ret_b HE.out.symm, H3.out⟩
    subst hk
    by_cases hk : l.length = l'.length
    case neg =>
      have h1 : ((l.length : Int) == l'.length) = false := by rw [beq_eq_false_iff_ne]; omega
      have h2 : ((l.length : Int) != l'.length) = true := by simp [bne, h1]
      have HE := Lib.hid (show sameT (T.mk k n x s l) (T.mk k n x s l') = false from sameT_false (fun e => hk (by injection e with _ _ _ _ e5; rw [e5])))
      clear hk
      go_enter Tryz.func102, Tryz.ntmps102
      go_wp2_with fail
      go_ret
      exact ⟨ret_b HE.out.symm, H3.out⟩
    have h1 : ((l.length : Int) == l'.length) = true := by simp [hk]
    have h2 : ((l.length : Int) != l'.length) = false := by simp [hk]
    have HL := Lib.hid hk; clear hk
    have q1 : Is ((w.alloc (.cells #[Value.int IntKind.i64 k, Value.int IntKind.i64 n, Value.int IntKind.i64 x, Value.string s, Value.slice a l.length cap] 29)).alloc (.cells #[Value.int IntKind.i64 k, Value.int IntKind.i64 n, Value.int IntKind.i64 x, Value.string s, Value.slice a' l'.length cap'] 29)) w.heap.size 29 _ := (Is.new _ _ _).alloc _
    have q2 := Is.new2 w (.cells #[Value.int IntKind.i64 k, Value.int IntKind.i64 n, Value.int IntKind.i64 x, Value.string s, Value.slice a l.length cap] 29) #[Value.int IntKind.i64 k, Value.int IntKind.i64 n, Value.int IntKind.i64 x, Value.string s, Value.slice a' l'.length cap'] 29
    have hs : w.heap.size + 2 ≤ ((w.alloc (.cells #[Value.int IntKind.i64 k, Value.int IntKind.i64 n, Value.int IntKind.i64 x, Value.string s, Value.slice a l.length cap] 29)).alloc (.cells #[Value.int IntKind.i64 k, Value.int IntKind.i64 n, Value.int IntKind.i64 x, Value.string s, Value.slice a' l'.length cap'] 29)).heap.size := by simp
    go_enter Tryz.func102, Tryz.ntmps102
    go_wp2_with fail
    generalize hW : (w.alloc (.cells #[Value.int IntKind.i64 k, Value.int IntKind.i64 n, Value.int IntKind.i64 x, Value.string s, Value.slice a l.length cap] 29)).alloc (.cells #[Value.int IntKind.i64 k, Value.int IntKind.i64 n, Value.int IntKind.i64 x, Value.string s, Value.slice a' l'.length cap'] 29) = W0 at q1 q2 H3 hs ⊢
    clear hW
    go_loopw [5] (fun i wr => ∃ (j : Nat), j ≤ l.length ∧ i = .int .i64 j ∧ Hid (l.take j = l'.take j) ∧ Below W0.heap.size W0 wr) (fun i _ => l.length - (intOf i).toNat)
    case atStart => exact ⟨0, Nat.zero_le _, rfl, rfl, Below.refl _ _⟩
    case round =>
      obtain ⟨j, hj, rfl, HP, hb⟩ := hrel
      have hbs := hb.size
      obtain ⟨c0, c1, c2, c3, c4⟩ := (q1.below hb (by omega)).cells5
      obtain ⟨e0, e1, e2, e3, e4⟩ := (q2.below hb (by omega)).cells5
      by_cases hlt : j < l.length
      · have hlt' : j < l'.length := by have := HL.out; omega
        have hR := (HR.out.below H3.out hB).below hb (by omega)
        have hR' := (HR'.out.below H3.out hB).below hb (by omega)
        obtain ⟨b, o, a2, cap2, rfl, hbl, d0, d1, d2, d3, d4, hwf, hq⟩ := hR.get j hlt
        obtain ⟨b', o', a3, cap3, rfl, hbl', d0', d1', d2', d3', d4', hwf', hq'⟩ := hR'.get j hlt'
        have l1 : b < wr.heap.size := by omega
        have l2 : b' < wr.heap.size := by omega
        have l3 : w.heap.size < wr.heap.size := by omega
        have l4 : w.heap.size + 1 < wr.heap.size := by omega
        clear hR hR' hwf hwf'
        go_wp2_with fail
        go_region_held3 (fun w' => (∀ b o, b < wr.heap.size → w'.cell? ⟨b, o, none⟩ = wr.cell? ⟨b, o, none⟩) ∧ Below (wr.heap.size) wr w') (first | exact ⟨fun _ _ _ => rfl, (Below.refl _ _).drew⟩ | exact keep_step (by assumption) (Below.drew (Below.refl _ _)) (Nat.le_refl _) | exact keep_step (by assumption) (by assumption) (by first | omega | (simp only [World.size_drew]; omega) | (simp only [size_alloc]; omega) | (simp only [World.size_drew, size_alloc]; omega) | (have := (‹(_ ∧ Below (wr.heap.size) wr _)›).2.size; first | omega | (simp only [World.size_drew]; omega) | (simp only [size_alloc]; omega) | (simp only [World.size_drew, size_alloc]; omega) | (simp only [World.size_drew] at this; omega) | (simp only [size_alloc] at this; omega) | (simp only [World.size_drew, size_alloc] at this; omega))) | exact keep_step (by assumption) (below1 _ _) (by first | omega | (simp only [World.size_drew]; omega) | (simp only [size_alloc]; omega) | (simp only [World.size_drew, size_alloc]; omega) | (have := (‹(_ ∧ Below (wr.heap.size) wr _)›).2.size; first | omega | (simp only [World.size_drew]; omega) | (simp only [size_alloc]; omega) | (simp only [World.size_drew, size_alloc]; omega) | (simp only [World.size_drew] at this; omega) | (simp only [size_alloc] at this; omega) | (simp only [World.size_drew, size_alloc] at this; omega)))) (first | (go_at_call 102; refine (IH.out l[j] (List.getElem_mem hlt) l'[j] _ _ _ _ B _ ?_ ?_ (by have := (‹_ ∧ Below (wr.heap.size) wr _›).2.size; omega)).mono ?_; (exact hq.below (‹_ ∧ Below (wr.heap.size) wr _›).2 (by omega)); (exact hq'.below (‹_ ∧ Below (wr.heap.size) wr _›).2 (by omega)); rintro e w2 ⟨rfl, hb2⟩))
        have K := Lib.hid (hb.trans ((‹_ ∧ Below (wr.heap.size) wr _›).2.mono hbs))
        clear hb2
        by_cases he : l[j] = l'[j]
        · have HE := Lib.hid (show l.take (j + 1) = l'.take (j + 1) from by rw [take_snoc l j hlt, take_snoc l' j hlt', HP.out, he])
          have hd := sameT_true he
          clear he
          rw [hd]
          go_wp2_with fail
          go_roundw
          case rel => exact ⟨j + 1, by omega, by go_num, HE.out, K.out⟩
          case measure => simp [intOf]; omega
        · have HE := Lib.hid (show sameT (T.mk k n x s l) (T.mk k n x s l') = false from sameT_false (fun e => he (by injection e with _ _ _ _ e5; subst e5; rfl)))
          have hd := sameT_false he
          clear he
          rw [hd]
          go_wp2_with fail
          go_ret
          exact ⟨ret_b HE.out.symm, H3.out.trans (K.out.mono (by omega))⟩
      · have HJ := Lib.hid (show sameT (T.mk k n x s l) (T.mk k n x s l') = true from sameT_true (by have := HP.out; have h2 := HL.out; rw [List.take_of_length_le (by omega), List.take_of_length_le (by omega)] at this; rw [this]))
        go_wp2_with fail
        go_ret
        exact ⟨ret_b HJ.out.symm, H3.out.trans (hb.mono (by omega))⟩
set_option maxHeartbeats 1000000 in
theorem equalFuncVal (l l' : List T) (IH : Hid (∀ t ∈ l, ∀ u : T, ∀ (a a' : Option Addr) (cap cap' B : Nat) (w : World), R w B a cap t.l → R w B a' cap' u.l → B ≤ w.heap.size →
    Calls Tryz.prog 78 #[.agg (cV t a cap), .agg (cV u a' cap')] w fun e w' => e = .returned (.bool (sameT t u)) ∧ Below w.heap.size w w')) (a a' : Option Addr) (cap cap' B : Nat) (w : World) (hr : R w B a cap l) (hr' : R w B a' cap' l') (hB : B ≤ w.heap.size) :
    Calls Tryz.prog 109 #[.slice a l.length cap, .slice a' l'.length cap', .func (.func 78) #[] #[]] w fun e w' => e = .returned (.bool (sameTs l l')) ∧ Below w.heap.size w w' := by
  obtain ⟨hl1, hl2⟩ := hr.len
  obtain ⟨hm1, hm2⟩ := hr'.len
  have HR := Lib.hid hr; clear hr
  have HR' := Lib.hid hr'; clear hr'
  by_cases hpq : l.length = l'.length
  · have hn : ((l.length : Int) == l'.length) = true := by simp [hpq]
    have hn2 : ((l.length : Int) != l'.length) = false := by simp [hpq]
    have HL := Lib.hid hpq; clear hpq
    go_enter Tryz.func109, Tryz.ntmps109
    go_wp2_with fail
    go_loopw [17, 7, 8, 9] (fun i _ _ _ wr => ∃ (j : Nat), j ≤ l.length ∧ i = .int .i64 j ∧ Hid (l.take j = l'.take j) ∧ Below w.heap.size w wr) (fun i _ _ _ _ => l.length - (intOf i).toNat)
    case atStart => exact ⟨0, Nat.zero_le _, rfl, rfl, Below.refl _ _⟩
    case round =>
      obtain ⟨j, hj, rfl, HP, hb⟩ := hrel
      by_cases hlt : j < l.length
      · have hlt' : j < l'.length := by have := HL.out; omega
        obtain ⟨b, o, a2, cap2, rfl, hbl, d0, d1, d2, d3, d4, hwf, hq⟩ := (HR.out.below hb hB).get j hlt
        obtain ⟨b', o', a3, cap3, rfl, hbl', d0', d1', d2', d3', d4', hwf', hq'⟩ := (HR'.out.below hb hB).get j hlt'
        have hbs := hb.size
        have l1 : b < wr.heap.size := by omega
        have l2 : b' < wr.heap.size := by omega
        have H3 := Lib.hid (below2 wr (.cells (cV l[j] a2 cap2) 29) (.cells (cV l'[j] a3 cap3) 29))
        clear hwf hwf'
        go_wp2_with fail
        refine (IH.out l[j] (List.getElem_mem hlt) l'[j] a2 a3 cap2 cap3 B _ (hq.below H3.out (by omega)) (hq'.below H3.out (by omega)) (by simp; omega)).mono ?_
        rintro e w2 ⟨rfl, hb2⟩
        have K := Lib.hid (hb.trans ((below_step H3.out hb2 (by simp; omega)).mono hbs))
        clear hb2
        by_cases he : l[j] = l'[j]
        · have HE := Lib.hid (show l.take (j + 1) = l'.take (j + 1) from by rw [take_snoc l j hlt, take_snoc l' j hlt', HP.out, he])
          have hd := sameT_true he
          clear he
          rw [hd]
          go_wp2_with fail
          go_roundw
          case rel => exact ⟨j + 1, by omega, by go_num, HE.out, K.out⟩
          case measure => simp [intOf]; omega
        · have HE := Lib.hid (show sameTs l l' = false from sameTs_false (fun e => he (by subst e; rfl)))
          have hd := sameT_false he
          clear he
          rw [hd]
          go_wp2_with fail
          go_ret
          exact ⟨ret_b HE.out.symm, K.out⟩
      · have HJ := Lib.hid (show sameTs l l' = true from sameTs_true (by have := HP.out; have h2 := HL.out; rwa [List.take_of_length_le (by omega), List.take_of_length_le (by omega)] at this))
        go_wp2_with fail
        go_ret
        exact ⟨ret_b HJ.out.symm, hb⟩
  · have hn : ((l.length : Int) == l'.length) = false := by rw [beq_eq_false_iff_ne]; omega
    have HL := Lib.hid (show sameTs l l' = false from sameTs_false (fun e => hpq (by rw [e]))); clear hpq
    go_enter Tryz.func109, Tryz.ntmps109
    go_wp2_with fail
    go_ret
    exact ⟨ret_b HL.out.symm, Below.refl _ _⟩
set_option maxHeartbeats 1000000 in
theorem impl_SameVal : ∀ t u : T, ∀ (a a' : Option Addr) (cap cap' B : Nat) (w : World), R w B a cap t.l → R w B a' cap' u.l → B ≤ w.heap.size →
    Calls Tryz.prog 78 #[.agg (cV t a cap), .agg (cV u a' cap')] w fun e w' => e = .returned (.bool (sameT t u)) ∧ Below w.heap.size w w' := by
  intro t
  induction t using T.ind with
  | h k n x s l ih =>
    intro u a a' cap cap' B w hr hr' hB
    have IH := Lib.hid ih; clear ih
    obtain ⟨k', n', x', s', l'⟩ := u
    simp only [cV, T.k, T.n, T.x, T.s, T.l] at hr hr' ⊢
    obtain ⟨hl1, hl2⟩ := hr.len
    obtain ⟨hm1, hm2⟩ := hr'.len
    have HR := Lib.hid hr; clear hr
    have HR' := Lib.hid hr'; clear hr'
    have H3 := Lib.hid (below2 w (.cells #[Value.int IntKind.i64 k, Value.int IntKind.i64 n, Value.int IntKind.i64 x, Value.string s, Value.slice a l.length cap] 29) (.cells #[Value.int IntKind.i64 k', Value.int IntKind.i64 n', Value.int IntKind.i64 x', Value.string s', Value.slice a' l'.length cap'] 29))
    by_cases hk : k = k'
    case neg =>
      have h1 : (k == k') = false := by simp [hk]
      have HE := Lib.hid (show sameT (T.mk k n x s l) (T.mk k' n' x' s' l') = false from sameT_false (fun e => hk (by injection e)))
      clear hk
      go_enter Tryz.func78, Tryz.ntmps78
      go_wp2_with fail
      go_ret
      exact ⟨ret_b HE.out.symm, H3.out⟩
    subst hk
    by_cases hk : n = n'
    case neg =>
      have h1 : (n == n') = false := by simp [hk]
      have HE := Lib.hid (show sameT (T.mk k n x s l) (T.mk k n' x' s' l') = false from sameT_false (fun e => hk (by injection e)))
      clear hk
      go_enter Tryz.func78, Tryz.ntmps78
      go_wp2_with fail
      go_ret
      exact ⟨ret_b HE.out.symm, H3.out⟩
    subst hk
    by_cases hk : x = x'
    case neg =>
      have h1 : (x == x') = false := by simp [hk]
      have HE := Lib.hid (show sameT (T.mk k n x s l) (T.mk k n x' s' l') = false from sameT_false (fun e => hk (by injection e)))
      clear hk
      go_enter Tryz.func78, Tryz.ntmps78
      go_wp2_with fail
      go_ret
      exact ⟨ret_b HE.out.symm, H3.out⟩
    subst hk
    by_cases hk : s = s'
    case neg =>
      have h1 := bytes_ne hk
      have HE := Lib.hid (show sameT (T.mk k n x s l) (T.mk k n x s' l') = false from sameT_false (fun e => hk (by injection e)))
      clear hk
      go_enter Tryz.func78, Tryz.ntmps78
      go_wp2_with fail
      go_ret
      exact ⟨ret_b HE.out.symm, H3.out⟩
    subst hk
    have HE := Lib.hid (show sameTs l l' = sameT (T.mk k n x s l) (T.mk k n x s l') from by
      by_cases e : l = l'
      · rw [sameT_true (by rw [e]), sameTs_true e]
      · rw [sameT_false (fun h => e (by injection h)), sameTs_false e])
    go_enter Tryz.func78, Tryz.ntmps78
    go_wp2_with fail
    refine (equalFuncVal l l' IH a a' cap cap' B _ (HR.out.below H3.out hB) (HR'.out.below H3.out hB) (by simp; omega)).mono ?_
    rintro e w2 ⟨rfl, hb2⟩
    rw [HE.out]
    go_wp2_with fail
    go_ret
    exact ⟨rfl, below_step H3.out hb2 (by simp; omega)⟩
end Go.Proofs.YthpmfkkmhbbloaaGreatDoor
namespace Go.Proofs.YthpmfkkmhbbloaaGreatDoor
open Go.ChangeShapes Go.WideShapes Go.ChangeAt Go.RowKit Go.Joins
set_option linter.unusedVariables false
set_option maxRecDepth 100000
def sdig (k : Nat) (out : ByteArray) : ByteArray := if h : k = 0 then out else sdig (k / 10) (strOfNums [48 + (k : Int) % 10] ++ out)
termination_by k
decreasing_by omega
theorem sdig_zero (out : ByteArray) : sdig 0 out = out := by rw [sdig]; simp
theorem sdig_pos (k : Nat) (h : k ≠ 0) (out : ByteArray) : sdig k out = sdig (k / 10) (strOfNums [48 + (k : Int) % 10] ++ out) := by rw [sdig]; simp [h]
theorem digit_one (k : Nat) (h : k < 10) : strOfNums [48 + (k : Int)] = ⟨#[UInt8.ofNat (48 + k)]⟩ := by
  have h1 : (48 + (k : Int)).toNat = 48 + k := by omega
  unfold strOfNums
  simp only [List.map, h1]
theorem sdig_dec (k : Nat) : ∀ out : ByteArray, k ≠ 0 → sdig k out = ⟨(Lib.decDigits k).toArray⟩ ++ out := by
  induction k using Nat.strongRecOn with
  | ind k ih =>
    intro out h
    rw [sdig_pos k h]
    have hm : (k : Int) % 10 = ((k % 10 : Nat) : Int) := by omega
    rw [hm, digit_one _ (by omega)]
    by_cases h10 : k < 10
    · rw [show k / 10 = 0 from by omega, sdig_zero, Lib.decDigits_one h10, Nat.mod_eq_of_lt h10]
    · rw [ih (k / 10) (by omega) _ (by omega), ← ByteArray.append_assoc]
      have e : Lib.decDigits k = Lib.decDigits (k / 10) ++ [UInt8.ofNat (48 + k % 10)] := by
        conv => lhs; rw [Lib.decDigits, dif_neg h10]
      rw [e]
      congr 1
theorem small_pow {m k : Nat} (h : m * 10 ^ k ≤ 9223372036854775808) (hm : m ≠ 0) : k ≤ 18 := by
  rcases Nat.lt_or_ge 18 k with hk | hk
  · exfalso
    have h1 : 10 ^ 19 ≤ 10 ^ k := Nat.pow_le_pow_right (by omega) hk
    have h2 : 1 * 10 ^ k ≤ m * 10 ^ k := Nat.mul_le_mul_right _ (by omega)
    have h3 : (10 : Nat) ^ 19 = 10000000000000000000 := by decide
    omega
  · exact hk
theorem next_pow {m k : Nat} (h : m * 10 ^ k ≤ 9223372036854775808) : m / 10 * 10 ^ (1 + k) ≤ 9223372036854775808 := by
  rw [Nat.pow_add, ← Nat.mul_assoc]
  have h1 : m / 10 * 10 ^ 1 ≤ m := by omega
  exact Nat.le_trans (Nat.mul_le_mul_right _ h1) h
/-- A number's numeral. -/
def numT (n : Int) : ByteArray := ⟨(Lib.itoa n).toArray⟩
theorem numT_zero : numT 0 = ⟨#[48]⟩ := by unfold numT Lib.itoa; rw [if_neg (by omega), Int.toNat_zero, Lib.decDigits_one (by omega)]; rfl
set_option maxHeartbeats 800000 in
theorem spec_NumText (n : Int) (w : World) (hn : I64 n) :
    Calls Tryz.prog 82 #[.int .i64 n] w fun e w' => e = .returned (.string (numT n)) ∧ Below w.heap.size w w' := by
  obtain ⟨hn0, hn1⟩ := hn
  by_cases hz : n = 0
  · subst hz
    go_enter Tryz.func82, Tryz.ntmps82
    go_wp2
    go_ret
    exact ⟨by rw [numT_zero]; rfl, by go_grown⟩
  · by_cases hp : 0 < n
    · obtain ⟨u, rfl⟩ : ∃ u : Nat, n = u := ⟨n.toNat, by omega⟩
      have hzb : ((u : Int) == 0) = false := by rw [beq_eq_false_iff_ne]; omega
      have HT := Lib.hid (show numT u = sdig u ⟨#[]⟩ from by rw [sdig_dec u _ (by omega)]; unfold numT Lib.itoa; rw [if_neg (by omega)]; simp; apply bytes_inj; simp)
      go_enter Tryz.func82, Tryz.ntmps82
      go_wp2_with fail
      go_loopw [3, 4, 5] (fun s q _ wr => ∃ (m : Nat) (o : ByteArray), q = .int .i64 m ∧ s = .string o ∧ m ≤ 9223372036854775807 ∧ o.size ≤ 19 ∧ Hid (m * 10 ^ o.size ≤ 9223372036854775808) ∧ Hid (sdig u ⟨#[]⟩ = sdig m o) ∧ Below w.heap.size w wr) (fun _ q _ _ => (intOf q).toNat)
      case atStart => exact ⟨u, ⟨#[]⟩, by go_num, rfl, by omega, by have h2 : (⟨#[]⟩ : ByteArray).size = 0 := rfl; omega, by have h2 : (⟨#[]⟩ : ByteArray).size = 0 := rfl; show _ ≤ _; rw [h2]; omega, rfl, Below.refl _ _⟩
      case round =>
        obtain ⟨m, o, rfl, rfl, hm1, hs, HPW, HM, hb⟩ := hrel
        by_cases hm : m = 0
        · subst hm
          go_wp2_with fail
          go_ret
          refine ⟨?_, hb⟩
          have h2 := HM.out
          rw [sdig_zero] at h2
          rw [HT.out, h2]; rfl
        · have hm0 : 0 < m := by omega
          have hmb : ((m : Int) == 0) = false := by rw [beq_eq_false_iff_ne]; omega
          have hcv := run_convert_bytes_arg (P := Tryz.prog) (wr.alloc (.cells #[.int .u8 (48 + (m : Int) % 10)] 5)) 33 5 Tryz.underlying33 Tryz.underlying5 wr.heap.size 0 1 1 [48 + (m : Int) % 10] rfl (by intro i hi; (obtain rfl : i = 0 := (by omega)); exact (Is.new wr _ _).cell 0 rfl) 9 Tryz.underlying9
          have hs18 := small_pow HPW.out hm
          have HPN := Lib.hid (next_pow HPW.out)
          have hd0 : ¬ ((m : Int) % 10 < 0) := by omega
          have HM2 := Lib.hid (HM.out.trans (sdig_pos m hm o))
          have hsz : (strOfNums [48 + (m : Int) % 10]).size = 1 := strOfNums_size _
          clear HM
          go_wp2_with fail
          go_roundw
          case rel => exact ⟨m / 10, _, by go_num, rfl, by omega, by rw [ByteArray.size_append]; omega, by show _ ≤ _; rw [ByteArray.size_append, hsz]; exact HPN.out, HM2.out, hb.trans ((below1 _ _).mono hb.size)⟩
          case measure => simp [intOf]; omega
    · obtain ⟨u, rfl⟩ : ∃ u : Nat, n = -(u : Int) := ⟨n.natAbs, by omega⟩
      have hzb : (-(u : Int) == 0) = false := by rw [beq_eq_false_iff_ne]; omega
      have hlt0 : -(u : Int) < 0 := by omega
      have HT := Lib.hid (show numT (-(u : Int)) = ⟨#[45]⟩ ++ sdig u ⟨#[]⟩ from by rw [sdig_dec u _ (by omega)]; unfold numT Lib.itoa; rw [if_pos (by omega)]; simp; apply bytes_inj; simp)
      go_enter Tryz.func82, Tryz.ntmps82
      go_wp2_with fail
      go_loopw [3, 4, 5] (fun s q _ wr => ∃ (m : Nat) (o : ByteArray), q = .int .i64 (-(m : Int)) ∧ s = .string o ∧ m ≤ 9223372036854775808 ∧ o.size ≤ 20 ∧ Hid (m * 10 ^ o.size ≤ 9223372036854775808) ∧ Hid (sdig u ⟨#[]⟩ = sdig m o) ∧ Below w.heap.size w wr) (fun _ q _ _ => (intOf q).natAbs)
      case atStart => exact ⟨u, ⟨#[]⟩, by go_num, rfl, by omega, by have h2 : (⟨#[]⟩ : ByteArray).size = 0 := rfl; omega, by have h2 : (⟨#[]⟩ : ByteArray).size = 0 := rfl; show _ ≤ _; rw [h2]; omega, rfl, Below.refl _ _⟩
      case round =>
        obtain ⟨m, o, rfl, rfl, hm1, hs, HPW, HM, hb⟩ := hrel
        by_cases hm : m = 0
        · subst hm
          go_wp2_with fail
          go_ret
          refine ⟨?_, hb⟩
          have h2 := HM.out
          rw [sdig_zero] at h2
          rw [HT.out, h2]; rfl
        · have hm0 : 0 < m := by omega
          have hmb : (-(m : Int) == 0) = false := by rw [beq_eq_false_iff_ne]; omega
          have hcv := run_convert_bytes_arg (P := Tryz.prog) (wr.alloc (.cells #[.int .u8 (48 + (m : Int) % 10)] 5)) 33 5 Tryz.underlying33 Tryz.underlying5 wr.heap.size 0 1 1 [48 + (m : Int) % 10] rfl (by intro i hi; (obtain rfl : i = 0 := (by omega)); exact (Is.new wr _ _).cell 0 rfl) 9 Tryz.underlying9
          have hs18 := small_pow HPW.out hm
          have HPN := Lib.hid (next_pow HPW.out)
          have htm : (-(m : Int)).tmod 10 = -((m : Int) % 10) := by rw [Int.neg_tmod, Int.tmod_eq_emod_of_nonneg (by omega)]
          have htd : (-(m : Int)).tdiv 10 = -((m : Int) / 10) := by rw [Int.neg_tdiv, Int.tdiv_eq_ediv_of_nonneg (by omega)]
          have HM2 := Lib.hid (HM.out.trans (sdig_pos m hm o))
          have hsz : (strOfNums [48 + (m : Int) % 10]).size = 1 := strOfNums_size _
          clear HM
          by_cases hd : (m : Int) % 10 = 0
          · have HM3 := Lib.hid (show sdig u ⟨#[]⟩ = sdig (m / 10) (strOfNums [48] ++ o) from by have := HM2.out; rw [hd] at this; exact this)
            have hsz3 : (strOfNums [48]).size = 1 := strOfNums_size _
            have hcv3 := run_convert_bytes_arg (P := Tryz.prog) (wr.alloc (.cells #[.int .u8 48] 5)) 33 5 Tryz.underlying33 Tryz.underlying5 wr.heap.size 0 1 1 [48] rfl (by intro i hi; (obtain rfl : i = 0 := (by omega)); exact (Is.new wr _ _).cell 0 rfl) 9 Tryz.underlying9
            clear hcv hsz HM2
            go_wp2_with fail
            go_roundw
            case rel => exact ⟨m / 10, _, by go_num, rfl, by omega, by rw [ByteArray.size_append]; omega, by show _ ≤ _; rw [ByteArray.size_append, hsz3]; exact HPN.out, HM3.out, hb.trans ((below1 _ _).mono hb.size)⟩
            case measure => simp [intOf]; omega
          · have hd0 : -((m : Int) % 10) < 0 := by omega
            go_wp2_with fail
            go_roundw
            case rel => exact ⟨m / 10, _, by go_num, rfl, by omega, by rw [ByteArray.size_append]; omega, by show _ ≤ _; rw [ByteArray.size_append, hsz]; exact HPN.out, HM2.out, hb.trans ((below1 _ _).mono hb.size)⟩
            case measure => simp [intOf]; omega
theorem impl_NumText (n : Int) (w : World) (hn : I64 n) (htab : Lib.TabIs Tryz.prog w "internal/strconv.uint64pow10" .u64 Lib.pow10Tab) :
    Calls Tryz.prog 92 #[.int .i64 n] w fun e w' => e = .returned (.string (numT n)) ∧ Below w.heap.size w w' := by
  have h := Tryz.strconv_Itoa n hn.1 hn.2 w htab
  go_enter Tryz.func92, Tryz.ntmps92
  go_wp2_with fail
  refine h.mono ?_
  rintro e w2 ⟨rfl, k, os, rfl⟩
  go_wp2_with fail
  go_ret
  exact ⟨rfl, Go.Lib.below_grow _ w (Nat.le_refl _) k os⟩
end Go.Proofs.YthpmfkkmhbbloaaGreatDoor
