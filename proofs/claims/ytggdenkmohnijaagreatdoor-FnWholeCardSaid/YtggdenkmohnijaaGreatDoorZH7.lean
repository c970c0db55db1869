/- Texts of this proof, merged: Copy, PathAt, PathAt2, OnceA, Once, NamesT, NamesT2, FitsP. No condition beyond what each theorem states. -/
import Derived.Deep.RegionLaw
import Derived.Test.YtggdenkmohnijaaGreatDoorZH6
set_option linter.unusedSimpArgs false
set_option linter.unnecessarySimpa false
namespace Go.Proofs.YtggdenkmohnijaaGreatDoor
open Go.ChangeShapes Go.WideShapes Go.ChangeAt Go.RowKit Go.Joins
set_option linter.unusedVariables false
set_option maxRecDepth 100000
section
variable {α : Type} {E : World → Nat → Nat → α → List Nat → Prop} {n : Nat} {e : TypeId} {nd : Prop}
theorem App.row {w : World} {lo hi cap : Nat} {a : Option Addr} {l : List α} (h : App E n e nd w lo hi a cap l) : ∀ k, (Value.slice a l.length cap).ownBlock = some k → lo ≤ k ∧ k < hi := by
 intro k hk
 rcases h with ⟨rfl, rfl, rfl⟩ | ⟨g, cur, F, rfl, k1, k2, _⟩
 ·simp [Value.ownBlock] at hk
 ·simp only [Value.ownBlock, Option.some.injEq] at hk; subst hk; exact ⟨k1, k2⟩
theorem wpList_app1 {P : Program} {w : World} (hE : Elem E n) {ops : Array Oper} {rest : List Oper} {o : Oper} {act : Act} {Q : Exit → Act → World → Prop} (hgd : o.guard = none) (s x : Operand) (t : TypeId)
  (ho : o.op = .call { callee := .builtin .append, args := #[s, x], argTypes := #[t, t] }) (z : Value) (bytes : Nat) (ht : P.underlying t = some (.slice e)) (hinfo : (P.info? e).map (fun i => (i.zero, i.size, i.bytes)) = some (some z, n, bytes)) (hzs : z.cells.size = n)
  (lo hi : Nat) (a : Option Addr) (cap : Nat) (l : List α) (hs : act.eval s = .slice a l.length cap) (happ : App E n e nd w lo hi a cap l) (hhi : hi ≤ w.heap.size) (hlo : lo ≤ hi)
  (b off c : Nat) (y : α) (G : List Nat) (hx : act.eval x = .slice (some ⟨b, off, none⟩) 1 c) (hys : E w b off y G) (hG : G.Nodup) (hG2 : ∀ f ∈ G, hi ≤ f ∧ f < w.heap.size ∧ Unf w f)
  (h63 : l.length + 1 ≤ maxLen) (hbytes : (l.length + 1) * bytes ≤ 140737488355328)
  (h : ∀ a' cap' w', App E n e nd w' lo w'.heap.size a' cap' (l ++ [y]) → Below lo w w' → (∀ f, f < w.heap.size → (∀ k, (Value.slice a l.length cap).ownBlock = some k → f ≠ k) → w'.heap[f]? = w.heap[f]?) → wpList P ops Q rest (act.put o.dst (.slice a' (l ++ [y]).length cap')) w') : wpList P ops Q (o :: rest) act w :=
 wpList_app hE hgd s x t ho z bytes ht hinfo hzs lo hi a cap l hs happ hhi (Nat.le_trans hlo hhi) b off 1 c [y] G hx rfl ⟨G, [], by simp, hys, rfl⟩ (fun _ => hG)
  (fun f hf => ⟨Nat.le_trans hlo (hG2 f hf).1, (hG2 f hf).2.1, (hG2 f hf).2.2, fun k hk => by have := (happ.row k hk).2; have := (hG2 f hf).1; omega⟩) (fun _ f hf => (hG2 f hf).1) (by omega) h63 hbytes h
end
theorem App.agree {α : Type} {E : World → Nat → Nat → α → List Nat → Prop} {n : Nat} {e : TypeId} {nd : Prop} (hE : Elem E n) {w w' : World} {lo hi cap : Nat} {a : Option Addr} {l : List α} (h : App E n e nd w lo hi a cap l) (hw : ∀ f, lo ≤ f → f < hi → w'.heap[f]? = w.heap[f]?) : App E n e nd w' lo hi a cap l := by
 rcases h with h | ⟨g, cur, F, ha, h1, h2, h3, h4, h5, h6, h7, h8, h9, h10⟩
 ·exact Or.inl h
 ·have hf : ∀ f ∈ F, w'.heap[f]? = w.heap[f]? := fun f hf => hw f (h10 f hf).1 (h10 f hf).2.1
  refine Or.inr ⟨g, cur, F, ha, h1, h2, (hw g h1 h2).trans h3, h4, h5, h6, h7.agree hE.loc l (Cells.of_block (hw g h1 h2) _ _) hf, h8, h9, fun f hm => ⟨(h10 f hm).1, (h10 f hm).2.1, (h10 f hm).2.2.agree (hf f hm)⟩⟩
theorem Is.set {w : World} {g : Nat} {e : TypeId} {cs : Array Value} (h : Is w g e cs) (i : Nat) (v : Value) : Is (w.setCell ⟨g, i, none⟩ v) g e (cs.setIfInBounds i v) := by
 unfold Is at *
 simp [World.setCell, Array.getElem?_modify, h]
theorem Is.miss {w : World} {g : Nat} {e : TypeId} {cs : Array Value} (h : Is w g e cs) (b i : Nat) (hb : g ≠ b) (v : Value) : Is (w.setCell ⟨b, i, none⟩ v) g e cs := (heap_miss w b i g hb v).trans h
theorem TV.box {w : World} {a : Option Addr} {cap : Nat} {t : T} {G : List Nat} (e : TypeId) (h : TL w a cap t.l G) (hwf : Wf t) (hG : ∀ f ∈ G, f < w.heap.size) : TV (w.alloc (.cells (cV t a cap) e)) w.heap.size 0 t G := by
 obtain ⟨c0, c1, c2, c3, c4⟩ := (Is.new w (cV t a cap) e).cells5
 rw [← T.eta t, TV.iff]
 exact ⟨c0, c1, c2, c3, hwf.1, hwf.2.1, hwf.2.2.1, hwf.2.2.2, a, cap, c4, h.agree (fun f hf => (below1 w _).block f (hG f hf))⟩
theorem Unf.alloc {w : World} {f : Nat} (h : Unf w f) (o : Obj) : Unf (w.alloc o) f := h.agree ((below1 w o).block f h.lt)
theorem out5 {W : World} {g : Nat} {e : TypeId} (hk : Blk W g e 5) (v0 v1 v2 v3 v4 : Value) (B : Nat) (hB : B ≤ g) :
  (((((W.setCell ⟨g, 0, none⟩ v0).setCell ⟨g, 1, none⟩ v1).setCell ⟨g, 2, none⟩ v2).setCell ⟨g, 3, none⟩ v3).setCell ⟨g, 4, none⟩ v4).cell? ⟨g, 0, none⟩ = some v0 ∧
  (((((W.setCell ⟨g, 0, none⟩ v0).setCell ⟨g, 1, none⟩ v1).setCell ⟨g, 2, none⟩ v2).setCell ⟨g, 3, none⟩ v3).setCell ⟨g, 4, none⟩ v4).cell? ⟨g, 1, none⟩ = some v1 ∧
  (((((W.setCell ⟨g, 0, none⟩ v0).setCell ⟨g, 1, none⟩ v1).setCell ⟨g, 2, none⟩ v2).setCell ⟨g, 3, none⟩ v3).setCell ⟨g, 4, none⟩ v4).cell? ⟨g, 2, none⟩ = some v2 ∧
  (((((W.setCell ⟨g, 0, none⟩ v0).setCell ⟨g, 1, none⟩ v1).setCell ⟨g, 2, none⟩ v2).setCell ⟨g, 3, none⟩ v3).setCell ⟨g, 4, none⟩ v4).cell? ⟨g, 3, none⟩ = some v3 ∧
  (((((W.setCell ⟨g, 0, none⟩ v0).setCell ⟨g, 1, none⟩ v1).setCell ⟨g, 2, none⟩ v2).setCell ⟨g, 3, none⟩ v3).setCell ⟨g, 4, none⟩ v4).cell? ⟨g, 4, none⟩ = some v4 ∧
  Below B W (((((W.setCell ⟨g, 0, none⟩ v0).setCell ⟨g, 1, none⟩ v1).setCell ⟨g, 2, none⟩ v2).setCell ⟨g, 3, none⟩ v3).setCell ⟨g, 4, none⟩ v4) ∧
  (∀ f, f ≠ g → (((((W.setCell ⟨g, 0, none⟩ v0).setCell ⟨g, 1, none⟩ v1).setCell ⟨g, 2, none⟩ v2).setCell ⟨g, 3, none⟩ v3).setCell ⟨g, 4, none⟩ v4).heap[f]? = W.heap[f]?) ∧
  (((((W.setCell ⟨g, 0, none⟩ v0).setCell ⟨g, 1, none⟩ v1).setCell ⟨g, 2, none⟩ v2).setCell ⟨g, 3, none⟩ v3).setCell ⟨g, 4, none⟩ v4).heap.size = W.heap.size := by
 obtain ⟨e0, e1, e2, e3, e4⟩ := st5_reads (o := 0) (v0 := v0) (v1 := v1) (v2 := v2) (v3 := v3) (v4 := v4) hk (by omega)
 have hb := st5_below (w := W) (g := g) (o := 0) (v0 := v0) (v1 := v1) (v2 := v2) (v3 := v3) (v4 := v4) B hB
 have hh := fun f (hf : f ≠ g) => st5_heap (w := W) (g := g) (o := 0) (v0 := v0) (v1 := v1) (v2 := v2) (v3 := v3) (v4 := v4) f hf
 have hs := st5_size (w := W) (g := g) (o := 0) (v0 := v0) (v1 := v1) (v2 := v2) (v3 := v3) (v4 := v4)
 simp only [st5, Nat.zero_add] at e0 e1 e2 e3 e4 hb hh hs
 exact ⟨e0, e1, e2, e3, e4, hb, hh, hs⟩
abbrev zV : Array Value := #[Value.int IntKind.i64 0, Value.int IntKind.i64 0, Value.int IntKind.i64 0, Value.string ⟨#[]⟩, Value.slice none 0 0]
set_option maxHeartbeats 1000000 in
theorem spec_l6Copy : ∀ t : T, ∀ (a : Option Addr) (cap B : Nat) (w : World), R w B a cap t.l → Wf t → B ≤ w.heap.size → T.count t ≤ 1073741824 →
  Calls Tryz.prog 82 #[.agg (cV t a cap)] w fun e w' => ∃ a' cap', e = .returned (.agg (cV t a' cap')) ∧ Own w' w.heap.size w'.heap.size a' cap' t.l ∧ Below w.heap.size w w' := by
 intro t
 induction t using T.ind with
 | h k n x s l ih =>
  intro a cap B w hr hwf hB hct
  have IH := Lib.hid ih; clear ih
  simp only [cV, T.k, T.n, T.x, T.s, T.l] at hr ⊢
  simp only [T.count] at hct
  obtain ⟨hl1, hl2⟩ := hr.len
  have hlc := T.length_le_countL l
  have HR := Lib.hid hr; clear hr hwf
  go_enter Tryz.func82, Tryz.ntmps82
  go_wp2_with fail
  generalize hW : (((w.alloc (Obj.cells #[Value.int IntKind.i64 k, Value.int IntKind.i64 n, Value.int IntKind.i64 x, Value.string s, Value.slice a l.length cap] 26)).alloc (Obj.cells zV 26)).alloc (Obj.cells #[Value.int IntKind.i64 k, Value.int IntKind.i64 n, Value.int IntKind.i64 x, Value.string s, Value.slice (some ⟨w.heap.size + 1 + 1 + 1, 0, none⟩) 0 0] 26)).alloc (Obj.cells #[] 26) = W0
  have q1 : Is W0 w.heap.size 26 #[Value.int IntKind.i64 k, Value.int IntKind.i64 n, Value.int IntKind.i64 x, Value.string s, Value.slice a l.length cap] := by subst hW; exact (((Is.new _ _ _).alloc _).alloc _).alloc _
  have q2 : Is W0 (w.heap.size + 1) 26 zV := by subst hW; exact ((Is.new2 _ _ _ _).alloc _).alloc _
  have q3 : Is W0 (w.heap.size + 1 + 1) 26 #[Value.int IntKind.i64 k, Value.int IntKind.i64 n, Value.int IntKind.i64 x, Value.string s, Value.slice (some ⟨w.heap.size + 1 + 1 + 1, 0, none⟩) 0 0] := by subst hW; exact (Is.new3 _ _ _ _ _).alloc _
  have hs0 : W0.heap.size = w.heap.size + 4 := by subst hW; simp
  have happ0 : App TV 5 26 True W0 (w.heap.size + 3) W0.heap.size (some ⟨w.heap.size + 1 + 1 + 1, 0, none⟩) 0 [] := by
   subst hW
   have := App.empty (E := TV) (n := 5) (e := 26) (nd := True) (((w.alloc (Obj.cells #[Value.int IntKind.i64 k, Value.int IntKind.i64 n, Value.int IntKind.i64 x, Value.string s, Value.slice a l.length cap] 26)).alloc (Obj.cells zV 26)).alloc (Obj.cells #[Value.int IntKind.i64 k, Value.int IntKind.i64 n, Value.int IntKind.i64 x, Value.string s, Value.slice (some ⟨w.heap.size + 1 + 1 + 1, 0, none⟩) 0 0] 26)) (w.heap.size + 3) (w.heap.size + 4) (by simp) (by simp)
   simp only [size_alloc] at this ⊢
   exact this.more (Nat.le_refl _) (by omega)
  have H0 := Lib.hid (show Below w.heap.size w W0 from by subst hW; exact ((below3 _ _ _ _)).alloc (by simp; omega) _)
  clear hW
  have HC := Lib.hid hct; clear hct
  go_loopw [4, 5] (fun i _ wr => ∃ (j : Nat) (ar : Option Addr) (cr : Nat), j ≤ l.length ∧ i = .int .i64 j ∧ Is wr (w.heap.size + 1 + 1) 26 #[Value.int IntKind.i64 k, Value.int IntKind.i64 n, Value.int IntKind.i64 x, Value.string s, Value.slice ar (l.take j).length cr] ∧ App TV 5 26 True wr (w.heap.size + 3) wr.heap.size ar cr (l.take j) ∧ Below (w.heap.size + 2) W0 wr) (fun i _ _ => l.length - (intOf i).toNat)
  case atStart => exact ⟨0, _, _, Nat.zero_le _, rfl, q3, happ0, Below.refl _ _⟩
  case round =>
   obtain ⟨j, ar, cr, hj, rfl, hout, happ, hb⟩ := hrel
   have hbs := hb.size
   have hlen : (l.take j).length = j := by rw [List.length_take]; omega
   have hlb1 : w.heap.size < wr.heap.size := by omega
   have hlb2 : w.heap.size + 1 + 1 < wr.heap.size := by omega
   by_cases hlt : j < l.length
   ·obtain ⟨r0, r1, r2, r3, r4⟩ := (q1.below hb (by omega)).cells5
    obtain ⟨b, o, a2, cap2, rfl, hbl, d0, d1, d2, d3, d4, hwf, hq⟩ := ((HR.out.below H0.out hB).below hb (by omega)).get j hlt
    have hcj := T.count_get l j hlt
    have hlb : b < wr.heap.size := by omega
    have HWF := Lib.hid hwf; clear hwf
    have HA := Lib.hid happ; clear happ
    go_wp2_with fail
    refine (IH.out l[j] (List.getElem_mem hlt) a2 cap2 B _ hq HWF.out (by omega) (by have := HC.out; omega)).mono ?_
    rintro e w2 ⟨a3, cap3, rfl, hown, hb2⟩
    obtain ⟨G, g1, g2, g3⟩ := hown
    have hs2 := hb2.size
    have hlb3 : w.heap.size + 1 + 1 < w2.heap.size := by omega
    have hout2 := hout.below hb2 (by omega)
    have ff := fun i => hout2.frozen i
    obtain ⟨o0, o1, o2, o3, o4⟩ := hout2.cells5
    have H2 := Lib.hid (below1 w2 (.cells (cV l[j] a3 cap3) 26))
    have HB2 := Lib.hid hb2
    have HN := Lib.hid ((((HA.out.below TV.elem hb2 (Nat.le_refl _)).below TV.elem H2.out (by omega))).below TV.elem (below1 (w2.alloc (.cells (cV l[j] a3 cap3) 26)) (.cells (cV l[j] a3 cap3) 26)) (by simp; omega))
    have HTV := Lib.hid (TV.box (w := w2.alloc (.cells (cV l[j] a3 cap3) 26)) 26 (g1.agree (fun f hf => H2.out.block f (g3 f hf).2.2.lt)) HWF.out (fun f hf => by have := (g3 f hf).2.2.lt; simp; omega))
    have HG := Lib.hid (show ∀ f ∈ G, wr.heap.size ≤ f ∧ f < ((w2.alloc (.cells (cV l[j] a3 cap3) 26)).alloc (.cells (cV l[j] a3 cap3) 26)).heap.size ∧ Unf ((w2.alloc (.cells (cV l[j] a3 cap3) 26)).alloc (.cells (cV l[j] a3 cap3) 26)) f from fun f hf => ⟨by have := (g3 f hf).1; omega, by have := (g3 f hf).2.1; simp; omega, ((g3 f hf).2.2.alloc _).alloc _⟩)
    have hout3 := Lib.hid ((hout2.alloc (.cells (cV l[j] a3 cap3) 26)).alloc (.cells (cV l[j] a3 cap3) 26))
    clear hb2 g1 g3 hout2
    go_wp2_with (at_builtin; refine wpList_app1 TV.elem rfl _ _ 24 rfl (.agg zV) 64 Tryz.underlying24 info_Val rfl (w.heap.size + 3) wr.heap.size ar cr (l.take j) (by first | rfl | (rw [hlen]; rfl)) HN.out (by simp; omega) (by omega) (w2.heap.size + 1) 0 1 l[j] G (by first | rfl | simp) (by first | exact HTV.out | (have := HTV.out; simpa using this)) g2 HG.out (by rw [hlen]; unfold maxLen; omega) (by rw [hlen]; have := HC.out; omega) ?_; intro ar2 cr2 w3 happ3 hb3 _; have hout4 := hout3.out.below hb3 (by omega); have ff4 := (fun i => hout4.frozen i); obtain ⟨p0, p1, p2, p3, p4⟩ := hout4.cells5)
    go_roundw
    case rel =>
     have hlt3 := hout4.lt
     refine ⟨j + 1, ar2, cr2, by omega, by go_num, ?_, ?_, ?_⟩
     ·rw [List.length_take]; exact hout4.set 4 _
     ·rw [take_snoc l j hlt]
      rw [size_set]
      exact happ3.agree TV.elem (fun f hf _ => heap_miss _ _ _ _ (by omega) _)
     ·exact (hb.trans ((HB2.out.trans ((H2.out.trans ((below1 _ _).mono (by simp))).mono (by omega))).mono (by omega))).trans ((hb3.mono (by omega)).trans (Below.setCell (Below.refl _ _) (p := ⟨w.heap.size + 1 + 1, 4, none⟩) (by simp) _))
    case measure => simp [intOf]; omega
   ·have hjj : l.length = j := by omega
    have HJ := Lib.hid (show l.take j = l from by rw [← hjj, List.take_length])
    rw [HJ.out] at happ hout
    have p1 := q1.below hb (by omega)
    have p2 := q2.below hb (by omega)
    have f2 := fun i => p2.frozen i
    obtain ⟨r0, r1, r2, r3, r4⟩ := p1.cells5
    obtain ⟨o0, o1, o2, o3, o4⟩ := p2.cells5
    obtain ⟨t0, t1, t2, t3, t4⟩ := hout.cells5
    have hlb3 : w.heap.size + 1 < wr.heap.size := by omega
    clear hjj
    go_wp2_with fail
    obtain ⟨e0, e1, e2, e3, e4, hbel, hold, hsz⟩ := out5 p2.blk (.int .i64 k) (.int .i64 n) (.int .i64 x) (.string s) (.slice ar l.length cr) w.heap.size (by omega)
    refine bodyPost_ret (v := .agg #[.int .i64 k, .int .i64 n, .int .i64 x, .string s, .slice ar l.length cr]) (by simp [results, Tryz.results82, go_sem, e0, e1, e2, e3, e4]) rfl ⟨ar, cr, rfl, ?_, ?_⟩
    ·rw [hsz]
     exact ((Own.ow.2 happ.own).agree (fun f h1 h2 => hold f (by omega))).more (by omega) (Nat.le_refl _)
    ·exact (H0.out.trans (hb.mono (by omega))).trans hbel
def rawI (t : T) (s : St) : Int := if t.k = 10 then (if s.2 then 2 * s.1 else 2 * s.1 + 1) else s.1
def okI (t : T) (s : St) : Prop := 0 ≤ s.1 ∧ (s.2 = true → t.k = 10) ∧ rawI t s < t.l.length
instance (t : T) (s : St) : Decidable (okI t s) := by unfold okI; exact inferInstance
def zT : T := .mk 0 0 0 ⟨#[]⟩ []
theorem Is.drew {w : World} {g : Nat} {e : TypeId} {cs : Array Value} (h : Is w g e cs) : Is w.drew g e cs := h
section
variable {α : Type} {E : World → Nat → Nat → α → List Nat → Prop} {n : Nat} {e : TypeId}
def AppL (E : World → Nat → Nat → α → List Nat → Prop) (n : Nat) (e : TypeId) (w : World) (rlo : Nat) (a : Option Addr) (cap : Nat) (l : List α) (F : List Nat) : Prop :=
 (a = none ∧ cap = 0 ∧ l = [] ∧ F = []) ∨ ∃ g cur, a = some ⟨g, 0, none⟩ ∧ rlo ≤ g ∧ w.heap[g]? = some (.cells cur e (0, 0)) ∧ l.length ≤ cap ∧ cap ≤ maxLen ∧ cur.size = cap * n ∧ Row E n w g 0 l F ∧ ∀ f ∈ F, f < rlo
theorem AppL.empty (w : World) (rlo : Nat) (hl : rlo ≤ w.heap.size) : AppL E n e (w.alloc (.cells #[] e)) rlo (some ⟨w.heap.size, 0, none⟩) 0 [] [] :=
 Or.inr ⟨w.heap.size, #[], rfl, hl, heap_alloc_new w _, Nat.le_refl _, by simp [maxLen], by simp, rfl, by simp⟩
theorem AppL.agree (hE : Elem E n) {w w' : World} {rlo cap : Nat} {a : Option Addr} {l : List α} {F : List Nat} (h : AppL E n e w rlo a cap l F) (hw : ∀ f, f < w.heap.size → w'.heap[f]? = w.heap[f]?) (hr : rlo ≤ w.heap.size) : AppL E n e w' rlo a cap l F := by
 rcases h with h | ⟨g, cur, ha, h1, h3, h4, h5, h6, h7, h8⟩
 ·exact Or.inl h
 ·have hg : g < w.heap.size := (Array.getElem?_eq_some_iff.1 h3).1
  exact Or.inr ⟨g, cur, ha, h1, (hw g hg).trans h3, h4, h5, h6, h7.agree hE.loc l (Cells.of_block (hw g hg) _ _) (fun f hf => hw f (by have := h8 f hf; omega)), h8⟩
theorem AppL.lt {w : World} {rlo cap : Nat} {a : Option Addr} {l : List α} {F : List Nat} (h : AppL E n e w rlo a cap l F) : ∀ f ∈ F, f < rlo := by
 rcases h with ⟨_, _, _, rfl⟩ | ⟨g, cur, ha, h1, h3, h4, h5, h6, h7, h8⟩
 ·simp
 ·exact h8
theorem AppL.own {w : World} {rlo lo cap : Nat} {a : Option Addr} {l : List α} {F : List Nat} (h : AppL E n e w rlo a cap l F) (hn : F.Nodup) (hlo : lo ≤ rlo) (hF : ∀ f ∈ F, lo ≤ f ∧ Unf w f) : Ow E n w lo w.heap.size a cap l := by
 rcases h with ⟨rfl, rfl, rfl, rfl⟩ | ⟨g, cur, rfl, h1, h3, h4, h5, h6, h7, h8⟩
 ·exact Ow.nil _ _ _ _ _ (by simp [maxLen])
 ·have hg : g < w.heap.size := (Array.getElem?_eq_some_iff.1 h3).1
  by_cases hl : l = []
  ·subst hl; exact Ow.nil _ _ _ _ _ h5
  ·refine ⟨g :: F, ⟨h4, h5, fun h => absurd h hl, fun _ => ⟨g, 0, F, rfl, rfl, h7⟩⟩, List.nodup_cons.2 ⟨fun hm => by have := h8 g hm; omega, hn⟩, ?_⟩
   intro f hf
   rcases List.mem_cons.1 hf with rfl | hf
   ·exact ⟨by omega, hg, ⟨_, _, h3⟩⟩
   ·exact ⟨(hF f hf).1, (hF f hf).2.lt, (hF f hf).2⟩
theorem AppL.owns {w : World} {rlo cap : Nat} {a : Option Addr} {l : List α} {F : List Nat} (h : AppL E n e w rlo a cap l F) :
  ∃ xs : List Value, w.ownsRow rlo e n (.slice a l.length cap) l.length xs ∧ xs.length = l.length * n ∧ ∀ g, a = some ⟨g, 0, none⟩ → ∀ i, i < l.length * n → w.cell? ⟨g, 0 + i, none⟩ = xs[i]? := by
 rcases h with ⟨rfl, rfl, rfl, rfl⟩ | ⟨g, cur, rfl, h1, h3, h4, h5, h6, h7, h8⟩
 ·exact ⟨[], World.ownsRow_nil _ _ _ _, by simp, by simp⟩
 ·have hle : l.length * n ≤ cur.size := by rw [h6]; exact Nat.mul_le_mul_right _ h4
  have hl : (cur.toList.take (l.length * n)).length = l.length * n := by simp; omega
  refine ⟨cur.toList.take (l.length * n), ⟨hl, Or.inr ⟨g, cap, cur, rfl, h1, h3, h4, h5, h6, rfl⟩⟩, hl, ?_⟩
  intro g2 hg2 i hi
  injection hg2 with hg2
  injection hg2 with hg2
  subst hg2
  rw [Nat.zero_add, List.getElem?_take, if_pos hi]
  simp [World.cell?, h3]
theorem AppL.grown (hE : Elem E n) {w w' : World} {rlo cap cap' : Nat} {a : Option Addr} {l ys : List α} {F G : List Nat} {b o g' : Nat} {news xs : List Value}
  (h : AppL E n e w rlo a cap l F) (hys : Row E n w b o ys G) (hG : ∀ f ∈ G, f < rlo) (hr : rlo ≤ w.heap.size)
  (hnl : news.length = ys.length * n) (hnc : ∀ i, i < ys.length * n → w.cell? ⟨b, o + i, none⟩ = news[i]?) (hxs : ∀ g, a = some ⟨g, 0, none⟩ → ∀ i, i < l.length * n → w.cell? ⟨g, 0 + i, none⟩ = xs[i]?) (hxl : xs.length = l.length * n)
  (hown : w'.ownsRow rlo e n (.slice (some ⟨g', 0, none⟩) (l.length + ys.length) cap') (l.length + ys.length) (xs ++ news)) (hgr : w.grownBy w' (Value.slice a l.length cap).ownBlock) :
  AppL E n e w' rlo (some ⟨g', 0, none⟩) cap' (l ++ ys) (F ++ G) ∧ Below rlo w w' := by
 have hrow : ∃ cur, w'.heap[g']? = some (.cells cur e (0, 0)) ∧ l.length + ys.length ≤ cap' ∧ cap' ≤ maxLen ∧ cur.size = cap' * n ∧ cur.toList.take ((l.length + ys.length) * n) = xs ++ news ∧ rlo ≤ g' := by
  rcases hown.2 with ⟨h0, _⟩ | ⟨g, cap2, cur, hv, hb, hg, h1, h2, h3, h4⟩
  ·cases h0
  ·injection hv with hv1 hv2 hv3
   injection hv1 with hv1
   injection hv1 with hv1
   subst hv1 hv3
   exact ⟨cur, hg, h1, h2, h3, h4, hb⟩
 obtain ⟨cur, r1, r2, r3, r4, r5, r6⟩ := hrow
 have hcell : ∀ i, i < (l.length + ys.length) * n → w'.cell? ⟨g', i, none⟩ = (xs ++ news)[i]? := by
  intro i hi
  rw [← r5, List.getElem?_take, if_pos hi]
  simp [World.cell?, r1]
 have hmul : (l.length + ys.length) * n = l.length * n + ys.length * n := Nat.add_mul _ _ _
 have hold : ∀ k, (Value.slice a l.length cap).ownBlock = some k → rlo ≤ k := by
  intro k hk
  rcases h with ⟨rfl, rfl, rfl, _⟩ | ⟨g, cur0, rfl, k1, _⟩
  ·simp [Value.ownBlock] at hk
  ·simp [Value.ownBlock] at hk; omega
 have hlow : ∀ f, f < rlo → w'.heap[f]? = w.heap[f]? := fun f hf => hgr.block f (by omega) (fun e => by have := hold f e.symm; omega)
 refine ⟨?_, hgr.os, hgr.tape, hgr.output, hgr.size, hlow⟩
 have hyr : Row E n w' g' (0 + l.length * n) ys G := by
  refine hys.mov hE ys (fun i hi => ?_) (fun f hf => hlow f (hG f hf))
  rw [Nat.zero_add, hcell _ (by omega), List.getElem?_append_right (by omega), hnc i hi, hxl]
  congr 1; omega
 rcases h with ⟨rfl, rfl, rfl, rfl⟩ | ⟨g, cur0, rfl, k1, h3, h4, h5, h6, h7, h8⟩
 ·exact Or.inr ⟨g', cur, rfl, r6, r1, by simpa using r2, r3, r4, by simpa using hyr, by simpa using hG⟩
 ·have hlr : Row E n w' g' 0 l F := by
   refine h7.mov hE l (fun i hi => ?_) (fun f hf => hlow f (h8 f hf))
   rw [Nat.zero_add, hcell _ (by omega), List.getElem?_append_left (by omega)]
   have := hxs g rfl i hi
   rw [Nat.zero_add] at this
   exact this.symm
  refine Or.inr ⟨g', cur, rfl, r6, r1, by simpa using r2, r3, r4, hlr.append hyr, fun f hf => ?_⟩
  rcases List.mem_append.1 hf with hf | hf
  ·exact h8 f hf
  ·exact hG f hf
theorem wpList_appL {P : Program} {w : World} (hE : Elem E n) {ops : Array Oper} {rest : List Oper} {o : Oper} {act : Act} {Q : Exit → Act → World → Prop} (hgd : o.guard = none) (s x : Operand) (t : TypeId)
  (ho : o.op = .call { callee := .builtin .append, args := #[s, x], argTypes := #[t, t] }) (z : Value) (bytes : Nat) (ht : P.underlying t = some (.slice e)) (hinfo : (P.info? e).map (fun i => (i.zero, i.size, i.bytes)) = some (some z, n, bytes)) (hzs : z.cells.size = n)
  (rlo : Nat) (a : Option Addr) (cap : Nat) (l : List α) (F : List Nat) (hs : act.eval s = .slice a l.length cap) (happ : AppL E n e w rlo a cap l F) (hlo : rlo ≤ w.heap.size)
  (b off m c : Nat) (ys : List α) (G : List Nat) (hx : act.eval x = .slice (some ⟨b, off, none⟩) m c) (hm : ys.length = m) (hys : Row E n w b off ys G) (hG : ∀ f ∈ G, f < rlo)
  (hpos : 0 < m) (h63 : l.length + m ≤ maxLen) (hbytes : (l.length + m) * bytes ≤ 140737488355328)
  (h : ∀ a' cap' w', AppL E n e w' rlo a' cap' (l ++ ys) (F ++ G) → Below rlo w w' → wpList P ops Q rest (act.put o.dst (.slice a' (l ++ ys).length cap')) w') : wpList P ops Q (o :: rest) act w := by
 obtain ⟨i, hi', hz0, hz1, hz2⟩ := info_parts hinfo
 obtain ⟨xs, q1, q2, q3⟩ := happ.owns
 subst hm
 obtain ⟨news, n1, n2, n3⟩ := cells_list (hys.cel hE ys)
 refine wpList_append_lies w hgd s x t ho rlo e i z n bytes ht hi' hz0 hz1 hz2 hzs hE.pos (.slice a l.length cap) l.length xs hs q1 ⟨b, off, none⟩ ys.length c news hx n1 (fun j u hj => ?_) n3 hpos h63 hbytes hlo w.heap.size rfl (fun g' cap' w' hown hgr hat hlt => ?_)
 ·have hj2 : j < ys.length * n := by
   rcases Nat.lt_or_ge j (ys.length * n) with h | h
   ·exact h
   ·rw [List.getElem?_eq_none (by omega)] at hj; cases hj
  rw [← hj, ← n2 j hj2, Addr.add_lit]
 ·obtain ⟨r1, r2⟩ := AppL.grown hE happ hys hG hlo n1 n2 q3 q2 hown hgr
  have := h _ _ w' r1 r2
  rwa [List.length_append] at this
end
def evN (l : List T) : Nat → List T
 | 0 => []
 | p + 1 => evN l p ++ [l.getD (2 * p) zT]
def namesT (t : T) : List T := if t.k = 10 then evN t.l ((t.l.length + 1) / 2) else []
theorem evN_len (l : List T) (p : Nat) : (evN l p).length = p := by
 induction p with
 | zero => rfl
 | succ p ih => simp [evN, ih]
theorem evN_succ (l : List T) (p i : Nat) (hi : i = 2 * p) (h : i < l.length) : evN l (p + 1) = evN l p ++ [l[i]] := by
 subst hi
 rw [evN, List.getD_eq_getElem?_getD, List.getElem?_eq_getElem h, Option.getD_some]
theorem evN_mem (l : List T) (p : Nat) (hp : 2 * p ≤ l.length + 1) : ∀ x ∈ evN l p, x ∈ l := by
 induction p with
 | zero => intro x hx; simp [evN] at hx
 | succ p ih =>
  intro x hx
  rw [evN_succ l p (2 * p) rfl (by omega)] at hx
  rcases List.mem_append.1 hx with h | h
  ·exact ih (by omega) x h
  ·rw [List.mem_singleton] at h; subst h; exact List.getElem_mem _
def onceN (ns : List T) : Nat → Bool
 | 0 => true
 | j + 1 => onceN ns j && !((ns.take j).any fun o => sameT o (ns.getD j zT))
def onceB (t : T) : Bool := onceN (namesT t) (namesT t).length
theorem onceN_succ (ns : List T) (j : Nat) (h : j < ns.length) : onceN ns (j + 1) = (onceN ns j && !((ns.take j).any fun o => sameT o ns[j])) := by
 rw [onceN, List.getD_eq_getElem?_getD, List.getElem?_eq_getElem h, Option.getD_some]
theorem onceN_false (ns : List T) (j n : Nat) (hj : j ≤ n) (h : onceN ns j = false) : onceN ns n = false := by
  induction n with
  | zero => obtain rfl : j = 0 := by omega
            exact h
  | succ n ih =>
    rcases Nat.lt_or_ge n j with hn | hn
    · obtain rfl : j = n + 1 := by omega
      exact h
    · rw [onceN, ih hn]; rfl
theorem Row.take {α : Type} {E : World → Nat → Nat → α → List Nat → Prop} {n : Nat} {w : World} {b : Nat} : ∀ (l : List α) {o : Nat} {F : List Nat} (i : Nat), Row E n w b o l F → ∃ G, Row E n w b o (l.take i) G ∧ ∀ f ∈ G, f ∈ F := by
 intro l
 induction l with
 | nil => intro o F i h; exact ⟨[], by simp [Row], by simp⟩
 | cons t r ih =>
  intro o F i h
  cases i with
  | zero => exact ⟨[], by simp [Row], by simp⟩
  | succ i =>
   obtain ⟨F1, F2, rfl, h1, h2⟩ := h
   obtain ⟨G, h3, h4⟩ := ih i h2
   exact ⟨F1 ++ G, ⟨F1, G, rfl, h1, h3⟩, fun f hf => by rcases List.mem_append.1 hf with h | h; simp [h]; simp [h4 f h]⟩
theorem Rd.take {α : Type} {E : World → Nat → Nat → α → List Nat → Prop} {n : Nat} {w : World} {B : Nat} {a : Option Addr} {cap : Nat} {l : List α} (h : Rd E n w B a cap l) (i : Nat) : Rd E n w B a cap (l.take i) := by
 obtain ⟨F, ⟨h1, h2, h3, h4⟩, hF⟩ := h
 by_cases hl : l.take i = []
 ·rw [hl]; exact ⟨[], Sl.nil _ _ _ h2, by simp⟩
 ·obtain ⟨b, o, F', ha, rfl, hr⟩ := h4 (by rintro rfl; simp at hl)
  obtain ⟨G, hg, hm⟩ := Row.take l i hr
  exact ⟨b :: G, ⟨by rw [List.length_take]; omega, h2, fun h => absurd h hl, fun _ => ⟨b, o, G, ha, rfl, hg⟩⟩, fun f hf => by
   rcases List.mem_cons.1 hf with rfl | hf
   ·exact hF f (by simp)
   ·exact hF f (by simp [hm f hf])⟩
theorem R.take {w : World} {B : Nat} {a : Option Addr} {cap : Nat} {l : List T} (h : R w B a cap l) (i : Nat) : R w B a cap (l.take i) := R.rd.2 ((R.rd.1 h).take i)
theorem AppL.read {α : Type} {E : World → Nat → Nat → α → List Nat → Prop} {n : Nat} {e : TypeId} {w : World} {rlo cap : Nat} {a : Option Addr} {l : List α} {F : List Nat} (h : AppL E n e w rlo a cap l F) (hlo : rlo ≤ w.heap.size) : Rd E n w w.heap.size a cap l := by
 rcases h with ⟨rfl, rfl, rfl, rfl⟩ | ⟨g, cur, rfl, h1, h3, h4, h5, h6, h7, h8⟩
 ·exact Rd.nil _ _
 ·have hg : g < w.heap.size := (Array.getElem?_eq_some_iff.1 h3).1
  by_cases hl : l = []
  ·subst hl; exact ⟨[], Sl.nil _ _ _ h5, by simp⟩
  ·exact ⟨g :: F, ⟨h4, h5, fun h => absurd h hl, fun _ => ⟨g, 0, F, rfl, rfl, h7⟩⟩, fun f hf => by
    rcases List.mem_cons.1 hf with rfl | hf
    ·exact hg
    ·have := h8 f hf; omega⟩
set_option maxHeartbeats 2000000 in
theorem impl_names (t : T) (a : Option Addr) (cap B : Nat) (w : World) (hr : R w B a cap t.l) (hB : B ≤ w.heap.size) (hlc : t.l.length ≤ 1073741824) :
  Calls Tryz.prog 68 #[.agg (cV t a cap)] w fun e w' => ∃ a' cap', e = .returned (.slice a' (namesT t).length cap') ∧ R w' w'.heap.size a' cap' (namesT t) ∧ Below w.heap.size w w' := by
 obtain ⟨k, n, x, s, l⟩ := t
 simp only [cV, T.k, T.n, T.x, T.s, T.l] at *
 obtain ⟨hl1, hl2⟩ := hr.len
 by_cases hk : k = 10
 ·subst hk
  have HNm := Lib.hid (show namesT (.mk 10 n x s l) = evN l ((l.length + 1) / 2) from if_pos rfl)
  have HR := Lib.hid hr; clear hr
  obtain ⟨rlo, hrlo⟩ : ∃ r, r = w.heap.size + 1 := ⟨_, rfl⟩
  have h0 := AppL.empty (E := TV) (n := 5) (e := 26) (w.alloc (Obj.cells #[Value.int IntKind.i64 10, Value.int IntKind.i64 n, Value.int IntKind.i64 x, Value.string s, Value.slice a l.length cap] 26)) rlo (by rw [hrlo]; simp)
  simp only [size_alloc] at h0
  go_enter Tryz.func68, Tryz.ntmps68
  go_wp2_with fail
  generalize hW : (w.alloc (Obj.cells #[Value.int IntKind.i64 10, Value.int IntKind.i64 n, Value.int IntKind.i64 x, Value.string s, Value.slice a l.length cap] 26)).alloc (Obj.cells #[] 26) = W0 at *
  have q1 : Is W0 w.heap.size 26 #[Value.int IntKind.i64 10, Value.int IntKind.i64 n, Value.int IntKind.i64 x, Value.string s, Value.slice a l.length cap] := by subst hW; exact (Is.new _ _ _).alloc _
  have H0 := Lib.hid (show Below w.heap.size w W0 from by subst hW; exact below2 _ _ _)
  have hs0 : W0.heap.size = w.heap.size + 2 := by subst hW; simp
  clear hW
  have lr : w.heap.size < rlo := by omega
  have hrl3 : rlo ≤ W0.heap.size := by omega
  have hBr : B ≤ rlo := by omega
  have hwr : w.heap.size ≤ rlo := by omega
  clear hrlo
  go_loopw [3, 4] (fun q iv wr => ∃ (i p : Nat) (ar : Option Addr) (cr : Nat) (F : List Nat), i ≤ l.length + 1 ∧ iv = .int .i64 i ∧ Hid (i = 2 * p) ∧ q = .slice ar (evN l p).length cr ∧ AppL TV 5 26 wr rlo ar cr (evN l p) F ∧ Below rlo W0 wr) (fun _ iv _ => l.length + 2 - (intOf iv).toNat)
  case atStart => exact ⟨0, 0, _, _, [], by omega, rfl, rfl, rfl, h0, Below.refl _ _⟩
  case round =>
   obtain ⟨i, p, ar, cr, F, hi', rfl, HI, rfl, happ, hb⟩ := hrel
   have hbs := hb.size
   have hbox := q1.below hb lr
   obtain ⟨x0, x1, x2, x3, x4⟩ := hbox.cells5
   have lbox : w.heap.size < wr.heap.size := by omega
   have HBw := Lib.hid (H0.out.trans (hb.mono hwr))
   have hlen := evN_len l p
   have HA := Lib.hid happ; clear happ
   by_cases hlt : i < l.length
   ·obtain ⟨b, o, a2, cap2, ha, hbl, d0, d1, d2, d3, d4, hwf, hq⟩ := (HR.out.below HBw.out hB).get i hlt
    obtain ⟨b', o', G, ha', hbl', hv, hG⟩ := (R.rd.1 (HR.out.below HBw.out hB)).get i hlt
    have e2 := ha.symm.trans ha'
    injection e2 with e2; injection e2 with e2 e3
    subst e2 e3 ha
    clear ha'
    have hlb : b < wr.heap.size := by omega
    have HS := Lib.hid (evN_succ l p i HI.out hlt)
    have hip : p ≤ 1073741824 := by have := HI.out; omega
    rw [← T.eta l[i], TV.iff] at hv
    obtain ⟨t0, t1, t2, t3, _, _, _, _, a3, cap3, t4, htl⟩ := hv
    have e4 := d4.symm.trans t4
    injection e4 with e4; injection e4 with e4 e5 e6
    subst e4 e6
    clear t0 t1 t2 t3 t4 e5
    have HTV := Lib.hid (TV.box 26 htl hwf (fun f hf => by have := hG f hf; omega))
    have HG := Lib.hid (show ∀ f ∈ G, f < rlo from fun f hf => by have := hG f hf; omega)
    have HN := Lib.hid (HA.out.agree TV.elem (fun f hf => (below1 wr (.cells (cV l[i] a2 cap2) 26)).block f hf) (by omega))
    clear htl hwf hq hG
    go_wp2_with (at_builtin; refine wpList_appL TV.elem rfl _ _ 24 rfl (.agg zV) 64 Tryz.underlying24 info_Val rfl rlo ar cr (evN l p) F (by first | rfl | (rw [hlen]; rfl)) HN.out (by simp; omega) wr.heap.size 0 1 1 [l[i]] G rfl rfl ⟨G, [], by simp, HTV.out, rfl⟩ HG.out (by omega) (by rw [hlen]; unfold maxLen; omega) (by rw [hlen]; omega) ?_; intro ar2 cr2 w3 happ3 hb3)
    go_roundw
    case rel => exact ⟨i + 2, p + 1, ar2, cr2, F ++ G, by omega, by go_num, by have := HI.out; show _ = _; omega, by rw [HS.out, List.length_append, hlen]; rfl, by rw [HS.out]; exact happ3, (hb.trans ((below1 wr _).mono (by omega))).trans hb3⟩
    case measure => simp [intOf]; omega
   ·have hp : p = (l.length + 1) / 2 := by have := HI.out; omega
    have HP := Lib.hid hp; clear hp
    go_wp2_with fail
    go_ret
    refine ⟨ar, cr, by rw [HNm.out, ← HP.out]; rfl, by rw [HNm.out, ← HP.out]; exact R.rd.2 (HA.out.read (by omega)), HBw.out⟩
 ·have HNm := Lib.hid (show namesT (.mk k n x s l) = [] from if_neg hk)
  have hk2 : (k == 10) = false := by simpa using hk
  have hk3 : (k != 10) = true := by simpa using hk
  go_enter Tryz.func68, Tryz.ntmps68
  go_wp2_with fail
  go_ret
  exact ⟨_, _, by rw [HNm.out]; rfl, by rw [HNm.out]; exact R.rd.2 ⟨[], Sl.nil _ _ _ (by unfold maxLen; omega), by simp⟩, below2 _ _ _⟩
set_option maxHeartbeats 1000000 in
theorem impl_OnceEach (t : T) (a : Option Addr) (cap B : Nat) (w : World) (hr : R w B a cap t.l) (hB : B ≤ w.heap.size) (hlc : t.l.length ≤ 1073741824) :
  Calls Tryz.prog 147 #[.agg (cV t a cap)] w fun e w' => e = .returned (.bool (onceB t)) ∧ Below w.heap.size w w' := by
 have hmf : ∀ (fn : Fn) (first cap : Array Value) (w : World), (Instr.makeFunc fn first cap).run Tryz.prog w = .ok (.func fn first cap) w := fun _ _ _ _ => rfl
 obtain ⟨ns, hns⟩ : ∃ ns, namesT t = ns := ⟨_, rfl⟩
 have HNS := Lib.hid hns; clear hns
 have HR := Lib.hid hr; clear hr
 go_enter Tryz.func147, Tryz.ntmps147
 go_wp2_with fail
 refine (impl_names t a cap B _ (HR.out.below (below1 _ _) hB) (by simp; omega) hlc).mono ?_
 rintro e w1 ⟨a1, c1, rfl, hr1, hb1⟩
 rw [HNS.out] at hr1 ⊢
 have HB1 := Lib.hid (below_step (below1 w _) hb1 (by simp)); clear hb1
 have hs1 := HB1.out.size
 obtain ⟨hn1, hn2⟩ := hr1.len
 have HR1 := Lib.hid hr1; clear hr1
 have HOB := Lib.hid (show onceB t = onceN ns ns.length from by unfold onceB; rw [HNS.out])
 go_wp2_with fail
 go_loopw [10, 4, 5] (fun iv _ _ wr => ∃ (j : Nat), j ≤ ns.length ∧ iv = .int .i64 j ∧ Hid (onceN ns j = true) ∧ Below w1.heap.size w1 wr) (fun iv _ _ _ => ns.length - (intOf iv).toNat)
 case atStart => exact ⟨0, Nat.zero_le _, rfl, rfl, Below.refl _ _⟩
 case round =>
  obtain ⟨j, hj, rfl, HJ, hb⟩ := hrel
  have hbs := hb.size
  by_cases hlt : j < ns.length
  ·obtain ⟨b, o, a2, cap2, rfl, hbl, d0, d1, d2, d3, d4, hwf, hq⟩ := (HR1.out.below hb (Nat.le_refl _)).get j hlt
   have hlb : b < wr.heap.size := by omega
   have H5 := Lib.hid (below1 wr (.cells (cV ns[j] a2 cap2) 26))
   have q5 := Is.new wr (cV ns[j] a2 cap2) 26
   have HQ := Lib.hid hq; clear hq
   have HTk := Lib.hid ((HR1.out.below hb (Nat.le_refl _)).take j)
   have htl : (ns.take j).length = j := by rw [List.length_take]; omega
   have HS := Lib.hid (onceN_succ ns j hlt)
   have hjc : j ≤ c1 := by omega
   go_wp2_with fail
   have hs5 : (wr.alloc (.cells (cV ns[j] a2 cap2) 26)).heap.size = wr.heap.size + 1 := by simp
   generalize wr.alloc (.cells (cV ns[j] a2 cap2) 26) = W5 at *
   have H1 : ∀ u ∈ ns.take j, ∀ (a : Option Addr) (cap : Nat) (w' : World), Below W5.heap.size W5 w' → R w' w1.heap.size a cap u.l → Wf u → Calls Tryz.prog 214 #[.agg (cV u a cap), .pointer (some ⟨wr.heap.size, 0, none⟩)] w' fun e v => e = .returned (.bool (sameT u ns[j])) ∧ Below w'.heap.size w' v := by
    intro u hu a3 cap3 w' hb3 hr3 hwf3
    have hs3 := hb3.size
    have t2 := q5.below hb3 (by omega)
    obtain ⟨c0, c1', c2, c3, c4⟩ := t2.cells5
    have l2 : wr.heap.size < w'.heap.size := by omega
    have HQ3 := Lib.hid (HQ.out.below (H5.out.trans (hb3.mono (by omega))) (by omega))
    have HR3 := Lib.hid hr3; clear hr3 hwf3 hu hb3 d0 d1 d2 d3 d4 q5
    go_enter Tryz.func214, Tryz.ntmps214
    go_wp2_with fail
    refine (impl_SameVal u ns[j] a3 a2 cap3 cap2 w1.heap.size _ (HR3.out.below (below1 _ _) (by omega)) (HQ3.out.below (below1 _ _) (by omega)) (by simp; omega)).mono ?_
    rintro e w5 ⟨rfl, hb5⟩
    go_wp2_with fail
    go_ret
    exact ⟨rfl, below_step (below1 _ _) hb5 (by simp)⟩
   have cC := has_OnceEach_1 (fun u => sameT u ns[j]) wr.heap.size (ns.take j) (some ⟨b, o, none⟩) c1 w1.heap.size W5 (HTk.out.below H5.out (by omega)) (by omega) H1
   rw [htl] at cC
   have CC := Lib.hid cC; clear cC H1
   cases hv : (ns.take j).any fun u => sameT u ns[j] with
   | true =>
    have HD := Lib.hid (show onceB t = false from HOB.out.trans (onceN_false ns (j + 1) _ (by omega) (by rw [HS.out, hv, HJ.out]; rfl)))
    rw [hv] at CC
    clear hv
    first | (refine CC.out.mono ?_) | (go_wp2_with fail; refine CC.out.mono ?_)
    rintro e w6 ⟨rfl, hb6⟩
    go_wp2_with fail
    go_ret
    exact ⟨ret_b (by rw [HD.out]), (HB1.out.trans (hb.mono (by omega))).trans ((H5.out.trans (hb6.mono (by omega))).mono (by omega))⟩
   | false =>
    have HD := Lib.hid (show onceN ns (j + 1) = true from by rw [HS.out, hv, HJ.out]; rfl)
    rw [hv] at CC
    clear hv
    first | (refine CC.out.mono ?_) | (go_wp2_with fail; refine CC.out.mono ?_)
    rintro e w6 ⟨rfl, hb6⟩
    go_wp2_with fail
    go_roundw
    case rel => exact ⟨j + 1, by omega, by go_num, HD.out, hb.trans ((H5.out.trans (hb6.mono (by omega))).mono hbs)⟩
    case measure => simp [intOf]; omega
  ·have hjj : ns.length = j := by omega
   have HD := Lib.hid (show onceB t = true from by rw [HOB.out, hjj]; exact HJ.out); clear hjj
   go_wp2_with fail
   go_ret
   exact ⟨ret_b (by rw [HD.out]), HB1.out.trans (hb.mono (by omega))⟩
end Go.Proofs.YtggdenkmohnijaaGreatDoor
