/- Texts of this proof, merged: Copy. No condition beyond what each theorem states. -/
import Derived.Test.YtggdenkmohnijaaGreatDoorZN4
set_option linter.unusedSimpArgs false
set_option linter.unnecessarySimpa false
namespace Go.Proofs.YtggdenkmohnijaaGreatDoor
open Go.ChangeShapes Go.WideShapes Go.ChangeAt Go.RowKit Go.Joins
set_option linter.unusedVariables false
set_option maxRecDepth 100000
section
variable {α : Type} {E : World → Nat → Nat → α → List Nat → Prop} {n : Nat} {e : TypeId} {nd : Prop}
theorem App.row {w : World} {lo hi cap : Nat} {a : Option Addr} {l : List α} (h : App E n e nd w lo hi a cap l) : ∀ k, (Value.slice a l.length cap).ownBlock = some k → lo ≤ k ∧ k < hi := by
  intro k hk
  rcases h with ⟨rfl, rfl, rfl⟩ | ⟨g, cur, F, rfl, k1, k2, _⟩
  · simp [Value.ownBlock] at hk
  · simp only [Value.ownBlock, Option.some.injEq] at hk; subst hk; exact ⟨k1, k2⟩
theorem wpList_app1 {P : Program} {w : World} (hE : Elem E n) {ops : Array Oper} {rest : List Oper} {o : Oper} {act : Act} {Q : Exit → Act → World → Prop} (hgd : o.guard = none) (s x : Operand) (t : TypeId)
    (ho : o.op = .call { callee := .builtin .append, args := #[s, x], argTypes := #[t, t] }) (z : Value) (bytes : Nat) (ht : P.underlying t = some (.slice e)) (hinfo : (P.info? e).map (fun i => (i.zero, i.size, i.bytes)) = some (some z, n, bytes)) (hzs : z.cells.size = n)
    (lo hi : Nat) (a : Option Addr) (cap : Nat) (l : List α) (hs : act.eval s = .slice a l.length cap) (happ : App E n e nd w lo hi a cap l) (hhi : hi ≤ w.heap.size) (hlo : lo ≤ hi)
    (b off c : Nat) (y : α) (G : List Nat) (hx : act.eval x = .slice (some ⟨b, off, none⟩) 1 c) (hys : E w b off y G) (hG : G.Nodup) (hG2 : ∀ f ∈ G, hi ≤ f ∧ f < w.heap.size ∧ Unf w f)
    (h63 : l.length + 1 ≤ maxLen) (hbytes : (l.length + 1) * bytes ≤ 140737488355328)
    (h : ∀ a' cap' w', App E n e nd w' lo w'.heap.size a' cap' (l ++ [y]) → Below lo w w' → (∀ f, f < w.heap.size → (∀ k, (Value.slice a l.length cap).ownBlock = some k → f ≠ k) → w'.heap[f]? = w.heap[f]?) → wpList P ops Q rest (act.put o.dst (.slice a' (l ++ [y]).length cap')) w') : wpList P ops Q (o :: rest) act w :=
  wpList_app hE hgd s x t ho z bytes ht hinfo hzs lo hi a cap l hs happ hhi (Nat.le_trans hlo hhi) b off 1 c [y] G hx rfl ⟨G, [], by simp, hys, rfl⟩ (fun _ => hG)
    (fun f hf => ⟨Nat.le_trans hlo (hG2 f hf).1, (hG2 f hf).2.1, (hG2 f hf).2.2, fun k hk => by have := (happ.row k hk).2; have := (hG2 f hf).1; omega⟩) (fun _ f hf => (hG2 f hf).1) (by omega) h63 hbytes h
end
theorem App.agree {α : Type} {E : World → Nat → Nat → α → List Nat → Prop} {n : Nat} {e : TypeId} {nd : Prop} (hE : Elem E n) {w w' : World} {lo hi cap : Nat} {a : Option Addr} {l : List α} (h : App E n e nd w lo hi a cap l) (hw : ∀ f, lo ≤ f → f < hi → w'.heap[f]? = w.heap[f]?) : App E n e nd w' lo hi a cap l := by
  rcases h with h | ⟨g, cur, F, ha, h1, h2, h3, h4, h5, h6, h7, h8, h9, h10⟩
  · exact Or.inl h
  · have hf : ∀ f ∈ F, w'.heap[f]? = w.heap[f]? := fun f hf => hw f (h10 f hf).1 (h10 f hf).2.1
    refine Or.inr ⟨g, cur, F, ha, h1, h2, (hw g h1 h2).trans h3, h4, h5, h6, h7.agree hE.loc l (Cells.of_block (hw g h1 h2) _ _) hf, h8, h9, fun f hm => ⟨(h10 f hm).1, (h10 f hm).2.1, (h10 f hm).2.2.agree (hf f hm)⟩⟩
theorem Is.set {w : World} {g : Nat} {e : TypeId} {cs : Array Value} (h : Is w g e cs) (i : Nat) (v : Value) : Is (w.setCell ⟨g, i, none⟩ v) g e (cs.setIfInBounds i v) := by
  unfold Is at *
  simp [World.setCell, Array.getElem?_modify, h]
theorem Is.miss {w : World} {g : Nat} {e : TypeId} {cs : Array Value} (h : Is w g e cs) (b i : Nat) (hb : g ≠ b) (v : Value) : Is (w.setCell ⟨b, i, none⟩ v) g e cs := (heap_miss w b i g hb v).trans h
theorem TV.box {w : World} {a : Option Addr} {cap : Nat} {t : T} {G : List Nat} (e : TypeId) (h : TL w a cap t.l G) (hwf : Wf t) (hG : ∀ f ∈ G, f < w.heap.size) : TV (w.alloc (.cells (cV t a cap) e)) w.heap.size 0 t G := by
  obtain ⟨c0, c1, c2, c3, c4⟩ := (Is.new w (cV t a cap) e).cells5
  rw [← T.eta t, TV.iff]
  exact ⟨c0, c1, c2, c3, hwf.1, hwf.2.1, hwf.2.2.1, hwf.2.2.2, a, cap, c4, h.agree (fun f hf => (below1 w _).block f (hG f hf))⟩
theorem Unf.alloc {w : World} {f : Nat} (h : Unf w f) (o : Obj) : Unf (w.alloc o) f := h.agree ((below1 w o).block f h.lt)
theorem out5 {W : World} {g : Nat} {e : TypeId} (hk : Blk W g e 5) (v0 v1 v2 v3 v4 : Value) (B : Nat) (hB : B ≤ g) :
    (((((W.setCell ⟨g, 0, none⟩ v0).setCell ⟨g, 1, none⟩ v1).setCell ⟨g, 2, none⟩ v2).setCell ⟨g, 3, none⟩ v3).setCell ⟨g, 4, none⟩ v4).cell? ⟨g, 0, none⟩ = some v0 ∧
    (((((W.setCell ⟨g, 0, none⟩ v0).setCell ⟨g, 1, none⟩ v1).setCell ⟨g, 2, none⟩ v2).setCell ⟨g, 3, none⟩ v3).setCell ⟨g, 4, none⟩ v4).cell? ⟨g, 1, none⟩ = some v1 ∧
    (((((W.setCell ⟨g, 0, none⟩ v0).setCell ⟨g, 1, none⟩ v1).setCell ⟨g, 2, none⟩ v2).setCell ⟨g, 3, none⟩ v3).setCell ⟨g, 4, none⟩ v4).cell? ⟨g, 2, none⟩ = some v2 ∧
    (((((W.setCell ⟨g, 0, none⟩ v0).setCell ⟨g, 1, none⟩ v1).setCell ⟨g, 2, none⟩ v2).setCell ⟨g, 3, none⟩ v3).setCell ⟨g, 4, none⟩ v4).cell? ⟨g, 3, none⟩ = some v3 ∧
    (((((W.setCell ⟨g, 0, none⟩ v0).setCell ⟨g, 1, none⟩ v1).setCell ⟨g, 2, none⟩ v2).setCell ⟨g, 3, none⟩ v3).setCell ⟨g, 4, none⟩ v4).cell? ⟨g, 4, none⟩ = some v4 ∧
    Below B W (((((W.setCell ⟨g, 0, none⟩ v0).setCell ⟨g, 1, none⟩ v1).setCell ⟨g, 2, none⟩ v2).setCell ⟨g, 3, none⟩ v3).setCell ⟨g, 4, none⟩ v4) ∧
    (∀ f, f ≠ g → (((((W.setCell ⟨g, 0, none⟩ v0).setCell ⟨g, 1, none⟩ v1).setCell ⟨g, 2, none⟩ v2).setCell ⟨g, 3, none⟩ v3).setCell ⟨g, 4, none⟩ v4).heap[f]? = W.heap[f]?) ∧
    (((((W.setCell ⟨g, 0, none⟩ v0).setCell ⟨g, 1, none⟩ v1).setCell ⟨g, 2, none⟩ v2).setCell ⟨g, 3, none⟩ v3).setCell ⟨g, 4, none⟩ v4).heap.size = W.heap.size := by
  obtain ⟨e0, e1, e2, e3, e4⟩ := st5_reads (o := 0) (v0 := v0) (v1 := v1) (v2 := v2) (v3 := v3) (v4 := v4) hk (by omega)
  have hb := st5_below (w := W) (g := g) (o := 0) (v0 := v0) (v1 := v1) (v2 := v2) (v3 := v3) (v4 := v4) B hB
  have hh := fun f (hf : f ≠ g) => st5_heap (w := W) (g := g) (o := 0) (v0 := v0) (v1 := v1) (v2 := v2) (v3 := v3) (v4 := v4) f hf
  have hs := st5_size (w := W) (g := g) (o := 0) (v0 := v0) (v1 := v1) (v2 := v2) (v3 := v3) (v4 := v4)
  simp only [st5, Nat.zero_add] at e0 e1 e2 e3 e4 hb hh hs
  exact ⟨e0, e1, e2, e3, e4, hb, hh, hs⟩
abbrev zV : Array Value := #[Value.int IntKind.i64 0, Value.int IntKind.i64 0, Value.int IntKind.i64 0, Value.string ⟨#[]⟩, Value.slice none 0 0]
set_option maxHeartbeats 1000000 in
theorem impl_copyVal : ∀ t : T, ∀ (a : Option Addr) (cap B : Nat) (w : World), R w B a cap t.l → Wf t → B ≤ w.heap.size → T.count t ≤ 1073741824 →
    Calls Tryz.prog 78 #[.agg (cV t a cap)] w fun e w' => ∃ a' cap', e = .returned (.agg (cV t a' cap')) ∧ Own w' w.heap.size w'.heap.size a' cap' t.l ∧ Below w.heap.size w w' := by
  intro t
  induction t using T.ind with
  | h k n x s l ih =>
    intro a cap B w hr hwf hB hct
    have IH := Lib.hid ih; clear ih
    simp only [cV, T.k, T.n, T.x, T.s, T.l] at hr ⊢
    simp only [T.count] at hct
    obtain ⟨hl1, hl2⟩ := hr.len
    have hlc := T.length_le_countL l
    have HR := Lib.hid hr; clear hr hwf
    go_enter Tryz.func78, Tryz.ntmps78
    go_wp2_with fail
    generalize hW : (w.alloc (Obj.cells #[Value.int IntKind.i64 k, Value.int IntKind.i64 n, Value.int IntKind.i64 x, Value.string s, Value.slice a l.length cap] 26)).alloc (Obj.cells zV 26) = W0
    have q1 : Is W0 w.heap.size 26 #[Value.int IntKind.i64 k, Value.int IntKind.i64 n, Value.int IntKind.i64 x, Value.string s, Value.slice a l.length cap] := by subst hW; exact (Is.new _ _ _).alloc _
    have q2 : Is W0 (w.heap.size + 1) 26 zV := by subst hW; exact Is.new2 _ _ _ _
    have H0 := Lib.hid (show Below w.heap.size w W0 from by subst hW; exact below2 _ _ _)
    have hs0 : W0.heap.size = w.heap.size + 2 := by subst hW; simp
    clear hW
    have HC := Lib.hid hct; clear hct
    go_loopw [3, 9, 5] (fun q i _ wr => ∃ (j : Nat) (ar : Option Addr) (cr : Nat), j ≤ l.length ∧ i = .int .i64 j ∧ q = .slice ar (l.take j).length cr ∧ App TV 5 26 True wr W0.heap.size wr.heap.size ar cr (l.take j) ∧ Below W0.heap.size W0 wr) (fun _ i _ _ => l.length - (intOf i).toNat)
    case atStart => exact ⟨0, none, 0, Nat.zero_le _, rfl, rfl, App.nil _ _ _, Below.refl _ _⟩
    case round =>
      obtain ⟨j, ar, cr, hj, rfl, rfl, happ, hb⟩ := hrel
      have hbs := hb.size
      have hlen : (l.take j).length = j := by rw [List.length_take]; omega
      by_cases hlt : j < l.length
      · obtain ⟨b, o, a2, cap2, rfl, hbl, d0, d1, d2, d3, d4, hwf, hq⟩ := ((HR.out.below H0.out hB).below hb (by omega)).get j hlt
        have hcj := T.count_get l j hlt
        have hlb : b < wr.heap.size := by omega
        have H1 := Lib.hid (below1 wr (.cells (cV l[j] a2 cap2) 26))
        have HWF := Lib.hid hwf; clear hwf
        have HA := Lib.hid happ; clear happ
        rw [hlen]
        go_wp2_with fail
        refine (IH.out l[j] (List.getElem_mem hlt) a2 cap2 B _ (hq.below H1.out (by omega)) HWF.out (by simp; omega) (by have := HC.out; omega)).mono ?_
        rintro e w2 ⟨a3, cap3, rfl, hown, hb2⟩
        obtain ⟨G, g1, g2, g3⟩ := hown
        have hs2 := hb2.size
        have hs3 : wr.heap.size < w2.heap.size := by simp at hs2; omega
        have HB2 := Lib.hid ((H1.out.trans (hb2.mono (by simp))))
        have HN := Lib.hid ((HA.out.below TV.elem HB2.out (Nat.le_refl _)).below TV.elem (below1 w2 (.cells (cV l[j] a3 cap3) 26)) (by omega))
        have HTV := Lib.hid (TV.box 26 g1 HWF.out (fun f hf => (g3 f hf).2.2.lt))
        have HG := Lib.hid (show ∀ f ∈ G, wr.heap.size ≤ f ∧ f < (w2.alloc (.cells (cV l[j] a3 cap3) 26)).heap.size ∧ Unf (w2.alloc (.cells (cV l[j] a3 cap3) 26)) f from fun f hf => ⟨by have := (g3 f hf).1; simp at this; omega, by have := (g3 f hf).2.1; simp; omega, (g3 f hf).2.2.alloc _⟩)
        clear hb2 hs2 g1 g3
        go_wp2_with (at_builtin; refine wpList_app1 TV.elem rfl _ _ 24 rfl (.agg zV) 64 Tryz.underlying24 info_Val rfl W0.heap.size wr.heap.size ar cr (l.take j) (by rw [hlen]; rfl) HN.out (by simp; omega) (by omega) w2.heap.size 0 1 l[j] G rfl HTV.out g2 HG.out (by rw [hlen]; unfold maxLen; omega) (by rw [hlen]; have := HC.out; omega) ?_; intro ar2 cr2 w3 happ3 hb3 _)
        go_roundw
        case rel => exact ⟨j + 1, ar2, cr2, by omega, by go_num, by rw [take_snoc l j hlt]; simp, by rw [take_snoc l j hlt]; exact happ3, (hb.trans ((HB2.out.trans ((below1 w2 _).mono (by omega))).mono (by omega))).trans hb3⟩
        case measure => simp [intOf]; omega
      · have hjj : l.length = j := by omega
        have HJ := Lib.hid (show l.take j = l from by rw [← hjj, List.take_length])
        have p1 := q1.below hb (by omega)
        have p2 := q2.below hb (by omega)
        have f1 := fun i => p1.frozen i
        have f2 := fun i => p2.frozen i
        obtain ⟨r0, r1, r2, r3, r4⟩ := p1.cells5
        obtain ⟨o0, o1, o2, o3, o4⟩ := p2.cells5
        have hlb : w.heap.size < wr.heap.size := by omega
        have hlb2 : w.heap.size + 1 < wr.heap.size := by omega
        rw [HJ.out] at happ ⊢
        clear hjj
        go_wp2_with fail
        have hk : Blk (wr.setCell ⟨w.heap.size, 4, none⟩ (.slice ar l.length cr)) (w.heap.size + 1) 26 5 := p2.blk.agree (heap_miss _ _ _ _ (by omega) _)
        obtain ⟨e0, e1, e2, e3, e4, hbel, hold, hsz⟩ := out5 hk (.int .i64 k) (.int .i64 n) (.int .i64 x) (.string s) (.slice ar l.length cr) w.heap.size (by omega)
        refine bodyPost_ret (v := .agg #[.int .i64 k, .int .i64 n, .int .i64 x, .string s, .slice ar l.length cr]) (by simp [results, Tryz.results78, go_sem, e0, e1, e2, e3, e4]) rfl ⟨ar, cr, rfl, ?_, ?_⟩
        · rw [hsz, size_set]
          exact ((Own.ow.2 happ.own).agree (fun f h1 h2 => (hold f (by omega)).trans (heap_miss _ _ _ _ (by omega) _))).more (by omega) (Nat.le_refl _)
        · exact (H0.out.trans (hb.mono (by omega))).trans ((Below.setCell (Below.refl _ _) (p := ⟨w.heap.size, 4, none⟩) (Nat.le_refl _) _).trans hbel)
set_option maxHeartbeats 1000000 in
theorem spec_l6Copy : ∀ t : T, ∀ (a : Option Addr) (cap B : Nat) (w : World), R w B a cap t.l → Wf t → B ≤ w.heap.size → T.count t ≤ 1073741824 →
    Calls Tryz.prog 82 #[.agg (cV t a cap)] w fun e w' => ∃ a' cap', e = .returned (.agg (cV t a' cap')) ∧ Own w' w.heap.size w'.heap.size a' cap' t.l ∧ Below w.heap.size w w' := by
  intro t
  induction t using T.ind with
  | h k n x s l ih =>
    intro a cap B w hr hwf hB hct
    have IH := Lib.hid ih; clear ih
    simp only [cV, T.k, T.n, T.x, T.s, T.l] at hr ⊢
    simp only [T.count] at hct
    obtain ⟨hl1, hl2⟩ := hr.len
    have hlc := T.length_le_countL l
    have HR := Lib.hid hr; clear hr hwf
    go_enter Tryz.func82, Tryz.ntmps82
    go_wp2_with fail
    generalize hW : (((w.alloc (Obj.cells #[Value.int IntKind.i64 k, Value.int IntKind.i64 n, Value.int IntKind.i64 x, Value.string s, Value.slice a l.length cap] 26)).alloc (Obj.cells zV 26)).alloc (Obj.cells #[Value.int IntKind.i64 k, Value.int IntKind.i64 n, Value.int IntKind.i64 x, Value.string s, Value.slice (some ⟨w.heap.size + 1 + 1 + 1, 0, none⟩) 0 0] 26)).alloc (Obj.cells #[] 26) = W0
    have q1 : Is W0 w.heap.size 26 #[Value.int IntKind.i64 k, Value.int IntKind.i64 n, Value.int IntKind.i64 x, Value.string s, Value.slice a l.length cap] := by subst hW; exact (((Is.new _ _ _).alloc _).alloc _).alloc _
    have q2 : Is W0 (w.heap.size + 1) 26 zV := by subst hW; exact ((Is.new2 _ _ _ _).alloc _).alloc _
    have q3 : Is W0 (w.heap.size + 1 + 1) 26 #[Value.int IntKind.i64 k, Value.int IntKind.i64 n, Value.int IntKind.i64 x, Value.string s, Value.slice (some ⟨w.heap.size + 1 + 1 + 1, 0, none⟩) 0 0] := by subst hW; exact (Is.new3 _ _ _ _ _).alloc _
    have hs0 : W0.heap.size = w.heap.size + 4 := by subst hW; simp
    have happ0 : App TV 5 26 True W0 (w.heap.size + 3) W0.heap.size (some ⟨w.heap.size + 1 + 1 + 1, 0, none⟩) 0 [] := by
      subst hW
      have := App.empty (E := TV) (n := 5) (e := 26) (nd := True) (((w.alloc (Obj.cells #[Value.int IntKind.i64 k, Value.int IntKind.i64 n, Value.int IntKind.i64 x, Value.string s, Value.slice a l.length cap] 26)).alloc (Obj.cells zV 26)).alloc (Obj.cells #[Value.int IntKind.i64 k, Value.int IntKind.i64 n, Value.int IntKind.i64 x, Value.string s, Value.slice (some ⟨w.heap.size + 1 + 1 + 1, 0, none⟩) 0 0] 26)) (w.heap.size + 3) (w.heap.size + 4) (by simp) (by simp)
      simp only [size_alloc] at this ⊢
      exact this.more (Nat.le_refl _) (by omega)
    have H0 := Lib.hid (show Below w.heap.size w W0 from by subst hW; exact ((below3 _ _ _ _)).alloc (by simp; omega) _)
    clear hW
    have HC := Lib.hid hct; clear hct
    go_loopw [4, 5] (fun i _ wr => ∃ (j : Nat) (ar : Option Addr) (cr : Nat), j ≤ l.length ∧ i = .int .i64 j ∧ Is wr (w.heap.size + 1 + 1) 26 #[Value.int IntKind.i64 k, Value.int IntKind.i64 n, Value.int IntKind.i64 x, Value.string s, Value.slice ar (l.take j).length cr] ∧ App TV 5 26 True wr (w.heap.size + 3) wr.heap.size ar cr (l.take j) ∧ Below (w.heap.size + 2) W0 wr) (fun i _ _ => l.length - (intOf i).toNat)
    case atStart => exact ⟨0, _, _, Nat.zero_le _, rfl, q3, happ0, Below.refl _ _⟩
    case round =>
      obtain ⟨j, ar, cr, hj, rfl, hout, happ, hb⟩ := hrel
      have hbs := hb.size
      have hlen : (l.take j).length = j := by rw [List.length_take]; omega
      have hlb1 : w.heap.size < wr.heap.size := by omega
      have hlb2 : w.heap.size + 1 + 1 < wr.heap.size := by omega
      by_cases hlt : j < l.length
      · obtain ⟨r0, r1, r2, r3, r4⟩ := (q1.below hb (by omega)).cells5
        obtain ⟨b, o, a2, cap2, rfl, hbl, d0, d1, d2, d3, d4, hwf, hq⟩ := ((HR.out.below H0.out hB).below hb (by omega)).get j hlt
        have hcj := T.count_get l j hlt
        have hlb : b < wr.heap.size := by omega
        have HWF := Lib.hid hwf; clear hwf
        have HA := Lib.hid happ; clear happ
        go_wp2_with fail
        refine (IH.out l[j] (List.getElem_mem hlt) a2 cap2 B _ hq HWF.out (by omega) (by have := HC.out; omega)).mono ?_
        rintro e w2 ⟨a3, cap3, rfl, hown, hb2⟩
        obtain ⟨G, g1, g2, g3⟩ := hown
        have hs2 := hb2.size
        have hlb3 : w.heap.size + 1 + 1 < w2.heap.size := by omega
        have hout2 := hout.below hb2 (by omega)
        have ff := fun i => hout2.frozen i
        obtain ⟨o0, o1, o2, o3, o4⟩ := hout2.cells5
        have H2 := Lib.hid (below1 w2 (.cells (cV l[j] a3 cap3) 26))
        have HB2 := Lib.hid hb2
        have HN := Lib.hid ((((HA.out.below TV.elem hb2 (Nat.le_refl _)).below TV.elem H2.out (by omega))).below TV.elem (below1 (w2.alloc (.cells (cV l[j] a3 cap3) 26)) (.cells (cV l[j] a3 cap3) 26)) (by simp; omega))
        have HTV := Lib.hid (TV.box (w := w2.alloc (.cells (cV l[j] a3 cap3) 26)) 26 (g1.agree (fun f hf => H2.out.block f (g3 f hf).2.2.lt)) HWF.out (fun f hf => by have := (g3 f hf).2.2.lt; simp; omega))
        have HG := Lib.hid (show ∀ f ∈ G, wr.heap.size ≤ f ∧ f < ((w2.alloc (.cells (cV l[j] a3 cap3) 26)).alloc (.cells (cV l[j] a3 cap3) 26)).heap.size ∧ Unf ((w2.alloc (.cells (cV l[j] a3 cap3) 26)).alloc (.cells (cV l[j] a3 cap3) 26)) f from fun f hf => ⟨by have := (g3 f hf).1; omega, by have := (g3 f hf).2.1; simp; omega, ((g3 f hf).2.2.alloc _).alloc _⟩)
        have hout3 := Lib.hid ((hout2.alloc (.cells (cV l[j] a3 cap3) 26)).alloc (.cells (cV l[j] a3 cap3) 26))
        clear hb2 g1 g3 hout2
        go_wp2_with (at_builtin; refine wpList_app1 TV.elem rfl _ _ 24 rfl (.agg zV) 64 Tryz.underlying24 info_Val rfl (w.heap.size + 3) wr.heap.size ar cr (l.take j) (by first | rfl | (rw [hlen]; rfl)) HN.out (by simp; omega) (by omega) (w2.heap.size + 1) 0 1 l[j] G (by first | rfl | simp) (by first | exact HTV.out | (have := HTV.out; simpa using this)) g2 HG.out (by rw [hlen]; unfold maxLen; omega) (by rw [hlen]; have := HC.out; omega) ?_; intro ar2 cr2 w3 happ3 hb3 _; have hout4 := hout3.out.below hb3 (by omega); have ff4 := (fun i => hout4.frozen i); obtain ⟨p0, p1, p2, p3, p4⟩ := hout4.cells5)
        go_roundw
        case rel =>
          have hlt3 := hout4.lt
          refine ⟨j + 1, ar2, cr2, by omega, by go_num, ?_, ?_, ?_⟩
          · rw [List.length_take]; exact hout4.set 4 _
          · rw [take_snoc l j hlt]
            rw [size_set]
            exact happ3.agree TV.elem (fun f hf _ => heap_miss _ _ _ _ (by omega) _)
          · exact (hb.trans ((HB2.out.trans ((H2.out.trans ((below1 _ _).mono (by simp))).mono (by omega))).mono (by omega))).trans ((hb3.mono (by omega)).trans (Below.setCell (Below.refl _ _) (p := ⟨w.heap.size + 1 + 1, 4, none⟩) (by simp) _))
        case measure => simp [intOf]; omega
      · have hjj : l.length = j := by omega
        have HJ := Lib.hid (show l.take j = l from by rw [← hjj, List.take_length])
        rw [HJ.out] at happ hout
        have p1 := q1.below hb (by omega)
        have p2 := q2.below hb (by omega)
        have f2 := fun i => p2.frozen i
        obtain ⟨r0, r1, r2, r3, r4⟩ := p1.cells5
        obtain ⟨o0, o1, o2, o3, o4⟩ := p2.cells5
        obtain ⟨t0, t1, t2, t3, t4⟩ := hout.cells5
        have hlb3 : w.heap.size + 1 < wr.heap.size := by omega
        clear hjj
        go_wp2_with fail
        obtain ⟨e0, e1, e2, e3, e4, hbel, hold, hsz⟩ := out5 p2.blk (.int .i64 k) (.int .i64 n) (.int .i64 x) (.string s) (.slice ar l.length cr) w.heap.size (by omega)
        refine bodyPost_ret (v := .agg #[.int .i64 k, .int .i64 n, .int .i64 x, .string s, .slice ar l.length cr]) (by simp [results, Tryz.results82, go_sem, e0, e1, e2, e3, e4]) rfl ⟨ar, cr, rfl, ?_, ?_⟩
        · rw [hsz]
          exact ((Own.ow.2 happ.own).agree (fun f h1 h2 => hold f (by omega))).more (by omega) (Nat.le_refl _)
        · exact (H0.out.trans (hb.mono (by omega))).trans hbel
end Go.Proofs.YtggdenkmohnijaaGreatDoor
