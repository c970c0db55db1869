/- Contracts and lemmas for the proofs of this seat: LawVal. No condition beyond those stated. -/
import Derived.Test.YtfbgmhjjdgglnaaDoorRows
import Derived.WalkKit
import Derived.ProofKit
import Derived.OpenShut
import Derived.Handy
import Derived.Lib.Hide
import Derived.Lib.SmallJoins
import Derived.Deep.RegionHeld3
import Derived.Test.YtfbgmhjjdgglnaaDoorBase
namespace Go.Proofs.YtfbgmhjjdgglnaaDoor
open Go.ChangeShapes Go.WideShapes Go.ChangeAt Go.RowKit Go.Joins
set_option linter.unusedVariables false
set_option maxRecDepth 100000
theorem szValS_of (l : List T) (IH : Hid (∀ t ∈ l, ∀ (a : Option Addr) (cap : Nat) (left : Int) (B : Nat) (w : World), R w B a cap t.l → Wf t → B ≤ w.heap.size → 0 ≤ left → left ≤ 1048576 →
      Calls Tryd.prog 8 #[.agg #[.int .i64 t.k, .int .i64 t.n, .int .i64 t.x, .string t.s, .slice a t.l.length cap], .int .i64 left] w fun e w' => ∃ r : Int, e = .returned (.int .i64 r) ∧ r ≤ left ∧ -1 ≤ r ∧ (0 ≤ r → (T.sz t : Int) + r = left) ∧ Below w.heap.size w w'))
    (a : Option Addr) (cap : Nat) (left : Int) (B : Nat) (w : World) (hr : R w B a cap l) (hB : B ≤ w.heap.size) (h0 : 0 ≤ left) (h1 : left ≤ 1048576) :
    Calls Tryd.prog 26 #[.slice a l.length cap, .int .i64 left] w fun e w' => ∃ r : Int, e = .returned (.int .i64 r) ∧ r ≤ left ∧ -1 ≤ r ∧ (0 ≤ r → (T.szL l : Int) + r = left) ∧ Below w.heap.size w w' := by
  obtain ⟨hl1, hl2⟩ := hr.len
  by_cases hlen : left < l.length
  · go_enter Tryd.func26, Tryd.ntmps26
    go_wp2
    go_ret
    exact ⟨_, rfl, by omega, by omega, fun h => by omega, Below.refl _ _⟩
  have hg : ¬ (left - (l.length : Int) < 0) := by omega
  go_enter Tryd.func26, Tryd.ntmps26
  go_wp2
  go_loopw [1, 5, 23] (fun m i _ wr => ∃ (j : Nat) (r : Int), j ≤ l.length ∧ i = .int .i64 j ∧ m = .int .i64 r ∧ 0 ≤ r ∧ r ≤ left ∧ (l.length : Int) + (T.szL (l.take j) : Int) + r = left + j ∧ Below w.heap.size w wr) (fun _ i _ _ => l.length - (intOf i).toNat)
  case atStart => exact ⟨0, left - l.length, Nat.zero_le _, rfl, by go_num, by omega, by omega, by simp [T.szL]; omega, Below.refl _ _⟩
  case round =>
    obtain ⟨j, r, hj, rfl, rfl, hr0, hr1, hsum, hb⟩ := hrel
    have HS := Lib.hid hsum; clear hsum
    have hbs := hb.size
    by_cases hlt : j < l.length
    · have hR' := hr.below hb hB
      obtain ⟨b, o, a', cap', rfl, hbl, d0, d1, d2, d3, d4, hwf, hr'⟩ := hR'.get j hlt
      have HT := Lib.hid (T.szL_take_succ l j hlt)
      go_wp2_with fail
      refine (IH.out l[j] (List.getElem_mem hlt) a' cap' r B _ hr' hwf (by omega) hr0 (by omega)).mono ?_
      rintro e w2 ⟨r2, rfl, g1, g2, g3, hb2⟩
      by_cases hneg : r2 < 0
      · go_wp2_with fail
        go_ret
        exact ⟨_, rfl, by omega, by omega, fun h => by omega, hb.trans (hb2.mono hbs)⟩
      · have g3' := g3 (by omega)
        have G := Lib.hid g3'; clear g3 g3'
        go_wp2_with fail
        all_goals go_roundw
        case rel => exact ⟨j + 1, r2, by omega, by go_num, rfl, by omega, by omega, by rw [HT.out]; have := G.out; have := HS.out; omega, hb.trans (hb2.mono hbs)⟩
        case measure => simp [intOf]; omega
    · have hjj : l.length = j := by omega
      have HJ := Lib.hid hjj; clear hjj
      go_wp2_with fail
      go_ret
      refine ⟨_, rfl, hr1, by omega, fun _ => ?_, hb⟩
      have h := HS.out; rw [← HJ.out, List.take_length] at h; omega
theorem szVal_calls : ∀ t : T, ∀ (a : Option Addr) (cap : Nat) (left : Int) (B : Nat) (w : World), R w B a cap t.l → Wf t → B ≤ w.heap.size → 0 ≤ left → left ≤ 1048576 →
      Calls Tryd.prog 8 #[.agg #[.int .i64 t.k, .int .i64 t.n, .int .i64 t.x, .string t.s, .slice a t.l.length cap], .int .i64 left] w fun e w' => ∃ r : Int, e = .returned (.int .i64 r) ∧ r ≤ left ∧ -1 ≤ r ∧ (0 ≤ r → (T.sz t : Int) + r = left) ∧ Below w.heap.size w w' := by
  intro t
  induction t using T.ind with
  | h k n x s l ih =>
    intro a cap left B w hr hwf hB h0 h1
    have IH := Lib.hid ih; clear ih
    have hs := hwf.size; clear hwf
    simp only [T.k, T.n, T.x, T.s, T.l] at hr hs ⊢
    obtain ⟨hl1, hl2⟩ := hr.len
    by_cases hlen : left < s.size
    · go_enter Tryd.func8, Tryd.ntmps8
      go_wp2_with fail
      all_goals go_ret
      exact ⟨_, rfl, by omega, by omega, fun h => by omega, by go_grown⟩
    have hg : ¬ (left - (s.size : Int) < 0) := by omega
    go_enter Tryd.func8, Tryd.ntmps8
    go_wp2_with fail
    refine (szValS_of l IH a cap _ B _ ((hr.below (Below.alloc (Below.refl _ _) (Nat.le_refl _) _) hB)) (by simp; omega) (by omega) (by omega)).mono ?_
    rintro e w2 ⟨r2, rfl, g1, g2, g3, hb2⟩
    have HB := Lib.hid hb2; clear hb2
    by_cases hneg : r2 < 0
    · go_wp2_with fail
      go_ret
      exact ⟨_, rfl, by omega, by omega, fun h => by omega, (Below.alloc (Below.refl _ _) (Nat.le_refl _) _).trans (HB.out.mono (by simp))⟩
    · have g3' := g3 (by omega)
      have G := Lib.hid g3'; clear g3 g3'
      go_wp2_with fail
      go_ret
      exact ⟨_, rfl, by omega, by omega, fun _ => by have := G.out; simp only [T.sz]; omega, (Below.alloc (Below.refl _ _) (Nat.le_refl _) _).trans (HB.out.mono (by simp))⟩
theorem info_Val : (Tryd.prog.info? 31).map (fun i => (i.zero, i.size, i.bytes)) = some (some (.agg #[.int .i64 0, .int .i64 0, .int .i64 0, .string ⟨#[]⟩, .slice none 0 0]), 5, 64) := by kernel_rfl
theorem toValS_of (l : List T) (IH : Hid (∀ t ∈ l, ∀ (a : Option Addr) (cap : Nat) (B : Nat) (w : World), R w B a cap t.l → Wf t → B ≤ w.heap.size → T.sz t ≤ 1048576 →
      Calls Tryd.prog 11 #[.agg #[.int .i64 t.k, .int .i64 t.n, .int .i64 t.x, .string t.s, .slice a t.l.length cap]] w fun e w' => ∃ a', e = .returned (.agg #[.int .i64 t.k, .int .i64 t.n, .int .i64 t.x, .string t.s, .slice a' t.l.length t.l.length]) ∧ Own w' w.heap.size w'.heap.size a' t.l.length t.l ∧ Below w.heap.size w w'))
    (a : Option Addr) (cap : Nat) (B : Nat) (w : World) (hr : R w B a cap l) (hB : B ≤ w.heap.size) (hz : T.szL l ≤ 1048576) :
    Calls Tryd.prog 30 #[.slice a l.length cap] w fun e w' => ∃ a', e = .returned (.slice a' l.length l.length) ∧ Own w' w.heap.size w'.heap.size a' l.length l ∧ Below w.heap.size w w' := by
  obtain ⟨hl1, hl2⟩ := hr.len
  have hll := T.length_le_szL l
  have hmk := fun w => make_run Tryd.underlying29 info_Val rfl l.length (by omega) (by omega) w
  go_enter Tryd.func30, Tryd.ntmps30
  go_wp2_with fail
  generalize hW : w.alloc (Obj.cells (madeCells #[Value.int IntKind.i64 0, Value.int IntKind.i64 0, Value.int IntKind.i64 0, Value.string { data := #[] }, Value.slice none 0 0] (l.length * 5)) 31) = W0
  have hBl : Below w.heap.size w W0 := by subst hW; go_grown
  have hBk : Blk W0 w.heap.size 31 (l.length * 5) := by subst hW; have := Blk.alloc w (madeCells #[Value.int IntKind.i64 0, Value.int IntKind.i64 0, Value.int IntKind.i64 0, Value.string { data := #[] }, Value.slice none 0 0] (l.length * 5)) 31; rwa [size_madeCells] at this
  clear hW hmk
  have HZ := Lib.hid hz; clear hz
  go_loopw [4] (fun i wr => ∃ (j : Nat), j ≤ l.length ∧ i = .int .i64 j ∧ Filling wr w.heap.size 31 (l.length * 5) (l.take j) ∧ Below w.heap.size w wr) (fun i _ => l.length - (intOf i).toNat)
  case atStart => exact ⟨0, Nat.zero_le _, rfl, Filling.start hBk, hBl⟩
  case round =>
    obtain ⟨j, hj, rfl, hf, hb⟩ := hrel
    have hbs := hb.size
    by_cases hlt : j < l.length
    · have hR' := hr.below hb hB
      obtain ⟨b, o, a', cap', rfl, hbl, d0, d1, d2, d3, d4, hwf, hr'⟩ := hR'.get j hlt
      go_wp2_with fail
      refine (IH.out l[j] (List.getElem_mem hlt) a' cap' B _ hr' hwf (by omega) (by have := HZ.out; have := T.sz_get l j hlt; omega)).mono ?_
      rintro e w2 ⟨a2, rfl, hown, hb2⟩
      have hbk2 : Blk w2 w.heap.size 31 (l.length * 5) := hf.1.below hb2 hf.1.unf.lt
      have hfz := fun i => hbk2.frozen i
      obtain ⟨x0, hx0⟩ := hbk2.cell (j * 5) (by omega)
      obtain ⟨x1, hx1⟩ := hbk2.cell (j * 5 + 1) (by omega)
      obtain ⟨x2, hx2⟩ := hbk2.cell (j * 5 + 2) (by omega)
      obtain ⟨x3, hx3⟩ := hbk2.cell (j * 5 + 3) (by omega)
      obtain ⟨x4, hx4⟩ := hbk2.cell (j * 5 + 4) (by omega)
      have HB := Lib.hid hb2; clear hb2
      go_wp2_with fail
      go_roundw
      case rel =>
        refine ⟨j + 1, by omega, by go_num, ?_, ?_⟩
        · rw [take_snoc l j hlt]
          exact hf.step HB.out hwf hown (by rw [List.length_take]; omega) (by omega)
        · exact (hb.trans (HB.out.mono hbs)).trans (st5_below _ (Nat.le_refl _))
      case measure => simp [intOf]; omega
    · have hjj : l.length = j := by omega
      have HJ := Lib.hid hjj; clear hjj
      go_wp2_with fail
      go_ret
      refine ⟨_, rfl, ?_, hb⟩
      have h := HJ.out
      have hf' := hf; rw [← h, List.take_length] at hf'
      exact hf'.done (Nat.le_refl _) (by unfold maxLen; omega)
theorem toVal_calls : ∀ t : T, ∀ (a : Option Addr) (cap : Nat) (B : Nat) (w : World), R w B a cap t.l → Wf t → B ≤ w.heap.size → T.sz t ≤ 1048576 →
      Calls Tryd.prog 11 #[.agg #[.int .i64 t.k, .int .i64 t.n, .int .i64 t.x, .string t.s, .slice a t.l.length cap]] w fun e w' => ∃ a', e = .returned (.agg #[.int .i64 t.k, .int .i64 t.n, .int .i64 t.x, .string t.s, .slice a' t.l.length t.l.length]) ∧ Own w' w.heap.size w'.heap.size a' t.l.length t.l ∧ Below w.heap.size w w' := by
  intro t
  induction t using T.ind with
  | h k n x s l ih =>
    intro a cap B w hr hwf hB hz
    have IH := Lib.hid ih; clear ih
    simp only [T.k, T.n, T.x, T.s, T.l, T.sz] at hr hz ⊢
    go_enter Tryd.func11, Tryd.ntmps11
    go_wp2_with fail
    generalize hW : (((w.alloc (Obj.cells #[Value.int IntKind.i64 k, Value.int IntKind.i64 n, Value.int IntKind.i64 x, Value.string s, Value.slice a l.length cap] 24)).alloc (Obj.cells #[Value.int IntKind.i64 0, Value.int IntKind.i64 0, Value.int IntKind.i64 0, Value.string { data := #[] }, Value.slice none 0 0] 31)).alloc (Obj.cells #[Value.int IntKind.i64 k, Value.int IntKind.i64 n, Value.int IntKind.i64 x, Value.string s, Value.slice none 0 0] 31)) = W0
    have hBl : Below w.heap.size w W0 := by subst hW; go_grown
    have hN : w.heap.size + 3 ≤ W0.heap.size := by subst hW; simp
    have q1 : Is W0 (w.heap.size + 1) 31 #[Value.int IntKind.i64 0, Value.int IntKind.i64 0, Value.int IntKind.i64 0, Value.string { data := #[] }, Value.slice none 0 0] := by
      subst hW; exact Is.alloc (by have := Is.new (w.alloc (Obj.cells #[Value.int IntKind.i64 k, Value.int IntKind.i64 n, Value.int IntKind.i64 x, Value.string s, Value.slice a l.length cap] 24)) #[Value.int IntKind.i64 0, Value.int IntKind.i64 0, Value.int IntKind.i64 0, Value.string { data := #[] }, Value.slice none 0 0] 31; rwa [size_alloc] at this) _
    have q2 : Is W0 (w.heap.size + 1 + 1) 31 #[Value.int IntKind.i64 k, Value.int IntKind.i64 n, Value.int IntKind.i64 x, Value.string s, Value.slice none 0 0] := by
      subst hW; have := Is.new ((w.alloc (Obj.cells #[Value.int IntKind.i64 k, Value.int IntKind.i64 n, Value.int IntKind.i64 x, Value.string s, Value.slice a l.length cap] 24)).alloc (Obj.cells #[Value.int IntKind.i64 0, Value.int IntKind.i64 0, Value.int IntKind.i64 0, Value.string { data := #[] }, Value.slice none 0 0] 31)) #[Value.int IntKind.i64 k, Value.int IntKind.i64 n, Value.int IntKind.i64 x, Value.string s, Value.slice none 0 0] 31; rwa [size_alloc, size_alloc] at this
    clear hW
    refine (toValS_of l IH a cap B _ (hr.below hBl hB) (by omega) (by omega)).mono ?_
    rintro e w2 ⟨a2, rfl, hown, hb2⟩
    have p1 := q1.below hb2 (by omega)
    have p2 := q2.below hb2 (by omega)
    have f1 := fun i => p1.frozen i
    have f2 := fun i => p2.frozen i
    have r0 := p1.cell 0 rfl
    have r1 := p1.cell 1 rfl
    have r2 := p1.cell 2 rfl
    have r3 := p1.cell 3 rfl
    have r4 := p1.cell 4 rfl
    have o0 := p2.cell 0 rfl
    have o1 := p2.cell 1 rfl
    have o2 := p2.cell 2 rfl
    have o3 := p2.cell 3 rfl
    have o4 := p2.cell 4 rfl
    have HB := Lib.hid hb2; clear hb2
    have hbs := HB.out.size
    go_wp2_with fail
    have hk : Blk (w2.setCell ⟨w.heap.size + 1 + 1, 4, none⟩ (.slice a2 l.length l.length)) (w.heap.size + 1) 31 5 := p1.blk.agree (heap_miss _ _ _ _ (by omega) _)
    obtain ⟨e0, e1, e2, e3, e4⟩ := st5_reads (o := 0) (v0 := .int .i64 k) (v1 := .int .i64 n) (v2 := .int .i64 x) (v3 := .string s) (v4 := .slice a2 l.length l.length) hk (by omega)
    have hbel := (st5_below (w := w2.setCell ⟨w.heap.size + 1 + 1, 4, none⟩ (.slice a2 l.length l.length)) (g := w.heap.size + 1) (o := 0) (v0 := .int .i64 k) (v1 := .int .i64 n) (v2 := .int .i64 x) (v3 := .string s) (v4 := .slice a2 l.length l.length) w.heap.size (by omega))
    have hold : ∀ f, W0.heap.size ≤ f → (st5 (w2.setCell ⟨w.heap.size + 1 + 1, 4, none⟩ (.slice a2 l.length l.length)) (w.heap.size + 1) 0 (.int .i64 k) (.int .i64 n) (.int .i64 x) (.string s) (.slice a2 l.length l.length)).heap[f]? = w2.heap[f]? := fun f hf => (st5_heap f (by omega)).trans (heap_miss _ _ _ _ (by omega) _)
    have hsz : (st5 (w2.setCell ⟨w.heap.size + 1 + 1, 4, none⟩ (.slice a2 l.length l.length)) (w.heap.size + 1) 0 (.int .i64 k) (.int .i64 n) (.int .i64 x) (.string s) (.slice a2 l.length l.length)).heap.size = w2.heap.size := by rw [st5_size, size_set]
    simp only [st5, Nat.zero_add] at e0 e1 e2 e3 e4 hbel hold hsz
    refine bodyPost_ret (v := .agg #[.int .i64 k, .int .i64 n, .int .i64 x, .string s, .slice a2 l.length l.length]) (by simp [results, Tryd.results11, go_sem, e0, e1, e2, e3, e4]) rfl ⟨a2, rfl, ?_, ?_⟩
    · rw [hsz]
      exact (hown.agree (fun f h1 h2 => hold f h1)).more (by omega) (Nat.le_refl _)
    · exact (hBl.trans (HB.out.mono (by omega))).trans ((Below.setCell (Below.refl _ _) (p := ⟨w.heap.size + 1 + 1, 4, none⟩) (by simp; omega) _).trans hbel)
theorem eqValS_of (l : List T) (IH : Hid (∀ t ∈ l, ∀ (a a' : Option Addr) (cap cap' : Nat) (B : Nat) (w : World), R w B a cap t.l → R w B a' cap' t.l → Wf t → B ≤ w.heap.size →
      Calls Tryd.prog 14 #[.agg #[.int .i64 t.k, .int .i64 t.n, .int .i64 t.x, .string t.s, .slice a t.l.length cap], .agg #[.int .i64 t.k, .int .i64 t.n, .int .i64 t.x, .string t.s, .slice a' t.l.length cap']] w fun e w' => e = .returned (.bool true) ∧ Below w.heap.size w w'))
    (a a' : Option Addr) (cap cap' : Nat) (B : Nat) (w : World) (hr : R w B a cap l) (hr' : R w B a' cap' l) (hB : B ≤ w.heap.size) :
    Calls Tryd.prog 35 #[.slice a l.length cap, .slice a' l.length cap'] w fun e w' => e = .returned (.bool true) ∧ Below w.heap.size w w' := by
  obtain ⟨hl1, hl2⟩ := hr.len
  go_enter Tryd.func35, Tryd.ntmps35
  go_wp2_with fail
  go_loopw [5] (fun i wr => ∃ (j : Nat), j ≤ l.length ∧ i = .int .i64 j ∧ Below w.heap.size w wr) (fun i _ => l.length - (intOf i).toNat)
  case atStart => exact ⟨0, Nat.zero_le _, rfl, Below.refl _ _⟩
  case round =>
    obtain ⟨j, hj, rfl, hb⟩ := hrel
    have hbs := hb.size
    by_cases hlt : j < l.length
    · obtain ⟨b, o, a2, cap2, rfl, hbl, d0, d1, d2, d3, d4, hwf, hq⟩ := (hr.below hb hB).get j hlt
      obtain ⟨b', o', a3, cap3, rfl, hbl', d0', d1', d2', d3', d4', hwf', hq'⟩ := (hr'.below hb hB).get j hlt
      have hlt1 : b < wr.heap.size := by omega
      have hlt2 : b' < wr.heap.size := by omega
      go_wp2_with fail
      go_region_held3 (fun w' => (∀ b o, b < wr.heap.size → w'.cell? ⟨b, o, none⟩ = wr.cell? ⟨b, o, none⟩) ∧ Below (wr.heap.size) wr w') (first | exact ⟨fun _ _ _ => rfl, (Below.refl _ _).drew⟩ | exact keep_step (by assumption) (Below.drew (Below.refl _ _)) (Nat.le_refl _) | exact keep_step (by assumption) (by assumption) (by first | omega | (simp only [World.size_drew]; omega) | (simp only [size_alloc]; omega) | (simp only [World.size_drew, size_alloc]; omega) | (have := (‹(_ ∧ Below (wr.heap.size) wr _)›).2.size; first | omega | (simp only [World.size_drew]; omega) | (simp only [size_alloc]; omega) | (simp only [World.size_drew, size_alloc]; omega) | (simp only [World.size_drew] at this; omega) | (simp only [size_alloc] at this; omega) | (simp only [World.size_drew, size_alloc] at this; omega))) | exact keep_step (by assumption) (below1 _ _) (by first | omega | (simp only [World.size_drew]; omega) | (simp only [size_alloc]; omega) | (simp only [World.size_drew, size_alloc]; omega) | (have := (‹(_ ∧ Below (wr.heap.size) wr _)›).2.size; first | omega | (simp only [World.size_drew]; omega) | (simp only [size_alloc]; omega) | (simp only [World.size_drew, size_alloc]; omega) | (simp only [World.size_drew] at this; omega) | (simp only [size_alloc] at this; omega) | (simp only [World.size_drew, size_alloc] at this; omega)))) (first | (go_at_call 14; refine (IH.out l[j] (List.getElem_mem hlt) a2 a3 cap2 cap3 B _ ?_ ?_ hwf ?_).mono ?_; (exact hq.below (Below.refl _ _).drew hB); (exact hq'.below (Below.refl _ _).drew hB); (simp only [World.size_drew]; omega); rintro e w2 ⟨rfl, hb2⟩))
      go_wp2_with fail
      go_roundw
      case rel => exact ⟨j + 1, by omega, by go_num, below_drawn hb hb2 (by simp only [World.size_drew]; omega)⟩
      case measure => simp [intOf]; omega
    · go_wp2_with fail
      go_ret
      exact ⟨rfl, hb⟩
theorem eqVal_calls : ∀ t : T, ∀ (a a' : Option Addr) (cap cap' : Nat) (B : Nat) (w : World), R w B a cap t.l → R w B a' cap' t.l → Wf t → B ≤ w.heap.size →
      Calls Tryd.prog 14 #[.agg #[.int .i64 t.k, .int .i64 t.n, .int .i64 t.x, .string t.s, .slice a t.l.length cap], .agg #[.int .i64 t.k, .int .i64 t.n, .int .i64 t.x, .string t.s, .slice a' t.l.length cap']] w fun e w' => e = .returned (.bool true) ∧ Below w.heap.size w w' := by
  intro t
  induction t using T.ind with
  | h k n x s l ih =>
    intro a a' cap cap' B w hr hr' hwf hB
    have IH := Lib.hid ih; clear ih
    simp only [T.k, T.n, T.x, T.s, T.l] at hr hr' ⊢
    go_enter Tryd.func14, Tryd.ntmps14
    go_wp2_with fail
    refine (eqValS_of l IH a a' cap cap' B _ (hr.below (below2 _ _ _) hB) (hr'.below (below2 _ _ _) hB) (by simp; omega)).mono ?_
    rintro e w2 ⟨rfl, hb2⟩
    go_wp2_with fail
    go_ret
    exact ⟨rfl, below_step (below2 _ _ _) hb2 (by simp; omega)⟩
end Go.Proofs.YtfbgmhjjdgglnaaDoor
