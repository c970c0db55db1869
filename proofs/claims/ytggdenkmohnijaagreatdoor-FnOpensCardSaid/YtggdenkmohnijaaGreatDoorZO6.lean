/- Texts of this proof, merged: Every, Copy, PathAt, PathAt2, OnceA, Once. No condition beyond what each theorem states. -/
import Derived.Test.YtggdenkmohnijaaGreatDoorZO5
import Derived.Test.YtggdenkmohnijaaGreatDoorZO3
set_option linter.unusedSimpArgs false
set_option linter.unnecessarySimpa false
namespace Go.Proofs.YtggdenkmohnijaaGreatDoor
open Go.ChangeShapes Go.WideShapes Go.ChangeAt Go.RowKit Go.Joins
set_option linter.unusedVariables false
set_option maxRecDepth 100000
theorem any_take_succ {α : Type} (p : α → Bool) (l : List α) (j : Nat) (h : j < l.length) : (l.take (j + 1)).any p = ((l.take j).any p || p l[j]) := by
 rw [take_snoc l j h, List.any_append]; simp
theorem any_true {α : Type} (p : α → Bool) (l : List α) (j : Nat) (h : j < l.length) (hp : p l[j] = true) : l.any p = true := by
 rw [List.any_eq_true]; exact ⟨l[j], List.getElem_mem h, hp⟩
theorem any_not_all {α : Type} (p : α → Bool) (l : List α) : (!l.any fun x => !p x) = l.all p := by
 rw [List.all_eq_not_any_not]
set_option maxHeartbeats 1000000 in
theorem idx_every_1 (p : T → Bool) (g : Nat) (l : List T) (a : Option Addr) (cap B : Nat) (w : World) (hr : R w B a cap l) (hB : B ≤ w.heap.size)
  (hp : ∀ t ∈ l, ∀ (a : Option Addr) (cap : Nat) (w' : World), Below w.heap.size w w' → R w' B a cap t.l → Wf t → Calls Tryz.prog 119 #[.agg (cV t a cap), .pointer (some ⟨g, 0, none⟩)] w' fun e v => e = .returned (.bool (p t)) ∧ Below w'.heap.size w' v) :
  Calls Tryz.prog 186 #[.slice a l.length cap, .func (.func 119) #[] #[.pointer (some ⟨g, 0, none⟩)]] w fun e w' => (∃ r : Int, e = .returned (.int .i64 r) ∧ decide (0 ≤ r) = l.any p) ∧ Below w.heap.size w w' := by
 obtain ⟨hl1, hl2⟩ := hr.len
 have HR := Lib.hid hr; clear hr
 have HP := Lib.hid hp; clear hp
 go_enter Tryz.func186, Tryz.ntmps186
 go_wp2_with fail
 go_loopw [8, 5] (fun i _ wr => ∃ (j : Nat), j ≤ l.length ∧ i = .int .i64 j ∧ Hid ((l.take j).any p = false) ∧ Below w.heap.size w wr) (fun i _ _ => l.length - (intOf i).toNat)
 case atStart => exact ⟨0, Nat.zero_le _, rfl, rfl, Below.refl _ _⟩
 case round =>
  obtain ⟨j, hj, rfl, HA, hb⟩ := hrel
  have hbs := hb.size
  by_cases hlt : j < l.length
  ·obtain ⟨b, o, a2, cap2, rfl, hbl, d0, d1, d2, d3, d4, hwf, hq⟩ := (HR.out.below hb hB).get j hlt
   have l1 : b < wr.heap.size := by omega
   have HW := Lib.hid hwf; clear hwf
   have HQ := Lib.hid hq; clear hq
   have HB := Lib.hid hb
   go_wp2_with fail
   refine (HP.out l[j] (List.getElem_mem hlt) a2 cap2 wr HB.out HQ.out HW.out).mono ?_
   rintro e w2 ⟨rfl, hb2⟩
   cases hv : p l[j] with
   | false =>
    have HE := Lib.hid (show (l.take (j + 1)).any p = false from by rw [any_take_succ p l j hlt, HA.out, hv]; rfl)
    clear hv
    go_wp2_with fail
    go_roundw
    case rel => exact ⟨j + 1, by omega, by go_num, HE.out, hb.trans (hb2.mono hbs)⟩
    case measure => simp [intOf]; omega
   | true =>
    have HE := Lib.hid (any_true p l j hlt hv)
    clear hv
    go_wp2_with fail
    go_ret
    exact ⟨⟨j, rfl, by rw [HE.out]; first | done | exact decide_eq_true (by omega)⟩, hb.trans (hb2.mono hbs)⟩
  ·have hjj : l.length = j := by omega
   have HE := Lib.hid (show l.any p = false from by rw [← HA.out, ← hjj, List.take_length]); clear hjj
   go_wp2_with fail
   go_ret
   exact ⟨⟨-1, rfl, by rw [HE.out]; rfl⟩, hb⟩
theorem has_every_1 (p : T → Bool) (g : Nat) (l : List T) (a : Option Addr) (cap B : Nat) (w : World) (hr : R w B a cap l) (hB : B ≤ w.heap.size)
  (hp : ∀ t ∈ l, ∀ (a : Option Addr) (cap : Nat) (w' : World), Below w.heap.size w w' → R w' B a cap t.l → Wf t → Calls Tryz.prog 119 #[.agg (cV t a cap), .pointer (some ⟨g, 0, none⟩)] w' fun e v => e = .returned (.bool (p t)) ∧ Below w'.heap.size w' v) :
  Calls Tryz.prog 118 #[.slice a l.length cap, .func (.func 119) #[] #[.pointer (some ⟨g, 0, none⟩)]] w fun e w' => e = .returned (.bool (l.any p)) ∧ Below w.heap.size w w' := by
 have cI := idx_every_1 p g l a cap B w hr hB hp
 generalize l.any p = r at *
 have CI := Lib.hid cI; clear cI hp hr
 go_enter Tryz.func118, Tryz.ntmps118
 go_wp2_with fail
 refine CI.out.mono ?_
 rintro e w2 ⟨⟨i, rfl, hi⟩, hb⟩
 cases r with
 | false =>
  have hi2 : ¬ 0 ≤ i := of_decide_eq_false hi
  clear hi
  go_wp2_with fail
  go_ret
  exact ⟨ret_b (by first | (simp; done) | (simp; omega)), hb⟩
 | true =>
  have hi2 : 0 ≤ i := of_decide_eq_true hi
  clear hi
  go_wp2_with fail
  go_ret
  exact ⟨ret_b (by first | (simp; done) | (simp; omega)), hb⟩
def Env (B : Nat) (w : World) : Prop := Lib.TabBelow Tryz.prog B w "internal/strconv.uint64pow10" .u64 Lib.pow10Tab ∧ UtfBelow B w
theorem Env.step {B : Nat} {w w' : World} (h : Env B w) (hb : Below B w w') : Env B w' := ⟨fun v hv => h.1 v (hb.trans hv), h.2.step hb⟩
theorem Env.here {B : Nat} {w : World} (h : Env B w) (hB : B ≤ w.heap.size) : Env w.heap.size w := ⟨fun v hv => h.1 v (hv.mono hB), fun v hv => h.2 v (hv.mono hB)⟩
theorem impl_ownOkR (t : T) (a : Option Addr) (cap B : Nat) (w : World) (hr : R w B a cap t.l) (hwf : Wf t) (hsz : T.sz t ≤ 1048576) (he : Env B w) (hB : B ≤ w.heap.size) :
  Calls Tryz.prog 86 #[.agg (cV t a cap)] w fun e v => e = .returned (.bool (ownB t)) ∧ Below w.heap.size w v :=
 impl_ownOk t a cap w hr.len.1 hr.len.2 hwf (by have := sz_string t; omega) (he.here hB).1 (he.here hB).2
set_option maxHeartbeats 2000000 in
theorem every_own (hp : ∀ t : T, ∀ (a : Option Addr) (cap B : Nat) (w : World), R w B a cap t.l → Wf t → T.sz t ≤ 1048576 → Env B w → B ≤ w.heap.size → Calls Tryz.prog 86 #[.agg (cV t a cap)] w fun e v => e = .returned (.bool (ownB t)) ∧ Below w.heap.size w v) :
  ∀ t : T, ∀ (a : Option Addr) (cap B : Nat) (w : World), R w B a cap t.l → Wf t → T.sz t ≤ 1048576 → Env B w → B ≤ w.heap.size →
  Calls Tryz.prog 66 #[.agg (cV t a cap), .func (.func 86) #[] #[]] w fun e w' => e = .returned (.bool (allB ownB t)) ∧ Below w.heap.size w w' := by
 have HP := Lib.hid hp; clear hp
 intro t
 induction t using T.ind with
 | h k n x s l ih =>
  intro a cap B w hr hwf hsz henv hB
  have IH := Lib.hid ih; clear ih
  have HPT := Lib.hid (fun W h1 h2 h3 h4 => HP.out (.mk k n x s l) a cap B W h1 hwf hsz h3 h4 : ∀ W, R W B a cap l → True → Env B W → B ≤ W.heap.size → _)
  have HALL := Lib.hid (allB_eq ownB (.mk k n x s l))
  simp only [cV, T.k, T.n, T.x, T.s, T.l] at hr HPT ⊢
  rw [sz_of] at hsz
  obtain ⟨hlc, hcap⟩ := hr.len
  have HR := Lib.hid hr; clear hr
  have HE := Lib.hid henv; clear henv hwf
  have hmf : ∀ (fn : Fn) (first cap : Array Value) (w : World), (Instr.makeFunc fn first cap).run Tryz.prog w = .ok (.func fn first cap) w := fun _ _ _ _ => rfl
  go_enter Tryz.func66, Tryz.ntmps66
  go_wp2_with fail
  generalize hW : (w.alloc (Obj.cells #[Value.int IntKind.i64 k, Value.int IntKind.i64 n, Value.int IntKind.i64 x, Value.string s, Value.slice a l.length cap] 26)).alloc (Obj.cells #[.func (.func 86) #[] #[]] 33) = W0
  have q1 : Is W0 w.heap.size 26 #[Value.int IntKind.i64 k, Value.int IntKind.i64 n, Value.int IntKind.i64 x, Value.string s, Value.slice a l.length cap] := by subst hW; exact (Is.new _ _ _).alloc _
  have q2 : Is W0 (w.heap.size + 1) 33 #[.func (.func 86) #[] #[]] := by subst hW; exact Is.new2 _ _ _ _
  have H0 := Lib.hid (show Below w.heap.size w W0 from by subst hW; exact below2 _ _ _)
  have hs0 : W0.heap.size = w.heap.size + 2 := by subst hW; simp
  clear hW
  refine (HPT.out W0 (HR.out.below H0.out hB) trivial (HE.out.step (H0.out.mono hB)) (by omega)).mono ?_
  rintro e w2 ⟨rfl, hb2⟩
  have hs2 := hb2.size
  have p1 := q1.below hb2 (by omega)
  have p2 := q2.below hb2 (by omega)
  obtain ⟨r0, r1, r2, r3, r4⟩ := p1.cells5
  have l1 : w.heap.size < w2.heap.size := by omega
  have HB2 := Lib.hid (H0.out.trans (hb2.mono (by omega)))
  clear HPT
  cases hv : ownB (.mk k n x s l) with
  | false =>
   have HD := Lib.hid (show allB ownB (.mk k n x s l) = false from by rw [HALL.out, hv]; rfl)
   clear hv HALL
   go_wp2_with fail
   go_ret
   exact ⟨ret_b (by rw [HD.out]), HB2.out⟩
  | true =>
   have HD := Lib.hid (show allB ownB (.mk k n x s l) = !(l.any fun x => !allB ownB x) from by rw [HALL.out, hv]; simp only [T.l, Bool.true_and]; exact (any_not_all _ _).symm)
   clear hv HALL
   have H1 : ∀ t ∈ l, ∀ (a : Option Addr) (cap : Nat) (w' : World), Below w2.heap.size w2 w' → R w' B a cap t.l → Wf t → Calls Tryz.prog 119 #[.agg (cV t a cap), .pointer (some ⟨w.heap.size + 1, 0, none⟩)] w' fun e v => e = .returned (.bool (!allB ownB t)) ∧ Below w'.heap.size w' v := by
    intro t ht a3 cap3 w' hb3 hr3 hwf3
    obtain ⟨i, hi, rfl⟩ := List.mem_iff_getElem.1 ht
    have hszi := T.sz_get l i hi
    have hs3 := hb3.size
    have t2 := p2.below hb3 (by omega)
    have c0 := t2.cell 0 rfl
    simp only [List.getElem_toArray, List.getElem_cons_zero] at c0
    have l2 : w.heap.size + 1 < w'.heap.size := by omega
    have HWF := Lib.hid hwf3; clear hwf3
    have HR3 := Lib.hid hr3; clear hr3
    have HB3 := Lib.hid (HB2.out.trans (hb3.mono (by omega)))
    clear hb3 p1 q1 q2 r0 r1 r2 r3 r4 ht
    go_enter Tryz.func119, Tryz.ntmps119
    go_wp2_with fail
    refine (IH.out l[i] (List.getElem_mem hi) a3 cap3 B _ (HR3.out.below (below1 _ _) (by omega)) HWF.out (by omega) (HE.out.step ((HB3.out.mono hB).trans ((below1 _ _).mono (by omega)))) (by simp; omega)).mono ?_
    rintro e w5 ⟨rfl, hb5⟩
    go_wp2_with fail
    go_ret
    exact ⟨rfl, below_step (below1 _ _) hb5 (by simp)⟩
   have cC := has_every_1 (fun x => !allB ownB x) (w.heap.size + 1) l a cap B w2 (HR.out.below HB2.out hB) (by omega) H1
   have CC := Lib.hid cC; clear cC H1
   generalize (l.any fun x => !allB ownB x) = r at *
   go_wp2_with fail
   refine CC.out.mono ?_
   rintro e w6 ⟨rfl, hb6⟩
   go_wp2_with fail
   go_ret
   exact ⟨ret_b (by rw [HD.out]), HB2.out.trans (hb6.mono (by omega))⟩
theorem impl_ValOk (t : T) (a : Option Addr) (cap B : Nat) (w : World) (hr : R w B a cap t.l) (hwf : Wf t) (hsz : T.sz t ≤ 1048576) (he : Env B w) (hB : B ≤ w.heap.size) :
  Calls Tryz.prog 30 #[.agg (cV t a cap)] w fun e v => e = .returned (.bool (allB ownB t)) ∧ Below w.heap.size w v := by
 have HC := Lib.hid (every_own (fun t a cap B w h1 h2 h3 h4 h5 => impl_ownOkR t a cap B w h1 h2 h3 h4 h5) t a cap B (w.alloc (.cells (cV t a cap) 26)) (hr.below (below1 _ _) hB) hwf hsz (he.step ((below1 _ _).mono hB)) (by simp; omega))
 go_enter Tryz.func30, Tryz.ntmps30
 go_wp2_with fail
 refine HC.out.mono ?_
 rintro e w2 ⟨rfl, hb2⟩
 go_wp2_with fail
 go_ret
 exact ⟨rfl, below_step (below1 _ _) hb2 (by simp)⟩
section
variable {α : Type} {E : World → Nat → Nat → α → List Nat → Prop} {n : Nat} {e : TypeId} {nd : Prop}
theorem App.row {w : World} {lo hi cap : Nat} {a : Option Addr} {l : List α} (h : App E n e nd w lo hi a cap l) : ∀ k, (Value.slice a l.length cap).ownBlock = some k → lo ≤ k ∧ k < hi := by
 intro k hk
 rcases h with ⟨rfl, rfl, rfl⟩ | ⟨g, cur, F, rfl, k1, k2, _⟩
 ·simp [Value.ownBlock] at hk
 ·simp only [Value.ownBlock, Option.some.injEq] at hk; subst hk; exact ⟨k1, k2⟩
theorem wpList_app1 {P : Program} {w : World} (hE : Elem E n) {ops : Array Oper} {rest : List Oper} {o : Oper} {act : Act} {Q : Exit → Act → World → Prop} (hgd : o.guard = none) (s x : Operand) (t : TypeId)
  (ho : o.op = .call { callee := .builtin .append, args := #[s, x], argTypes := #[t, t] }) (z : Value) (bytes : Nat) (ht : P.underlying t = some (.slice e)) (hinfo : (P.info? e).map (fun i => (i.zero, i.size, i.bytes)) = some (some z, n, bytes)) (hzs : z.cells.size = n)
  (lo hi : Nat) (a : Option Addr) (cap : Nat) (l : List α) (hs : act.eval s = .slice a l.length cap) (happ : App E n e nd w lo hi a cap l) (hhi : hi ≤ w.heap.size) (hlo : lo ≤ hi)
  (b off c : Nat) (y : α) (G : List Nat) (hx : act.eval x = .slice (some ⟨b, off, none⟩) 1 c) (hys : E w b off y G) (hG : G.Nodup) (hG2 : ∀ f ∈ G, hi ≤ f ∧ f < w.heap.size ∧ Unf w f)
  (h63 : l.length + 1 ≤ maxLen) (hbytes : (l.length + 1) * bytes ≤ 140737488355328)
  (h : ∀ a' cap' w', App E n e nd w' lo w'.heap.size a' cap' (l ++ [y]) → Below lo w w' → (∀ f, f < w.heap.size → (∀ k, (Value.slice a l.length cap).ownBlock = some k → f ≠ k) → w'.heap[f]? = w.heap[f]?) → wpList P ops Q rest (act.put o.dst (.slice a' (l ++ [y]).length cap')) w') : wpList P ops Q (o :: rest) act w :=
 wpList_app hE hgd s x t ho z bytes ht hinfo hzs lo hi a cap l hs happ hhi (Nat.le_trans hlo hhi) b off 1 c [y] G hx rfl ⟨G, [], by simp, hys, rfl⟩ (fun _ => hG)
  (fun f hf => ⟨Nat.le_trans hlo (hG2 f hf).1, (hG2 f hf).2.1, (hG2 f hf).2.2, fun k hk => by have := (happ.row k hk).2; have := (hG2 f hf).1; omega⟩) (fun _ f hf => (hG2 f hf).1) (by omega) h63 hbytes h
end
theorem App.agree {α : Type} {E : World → Nat → Nat → α → List Nat → Prop} {n : Nat} {e : TypeId} {nd : Prop} (hE : Elem E n) {w w' : World} {lo hi cap : Nat} {a : Option Addr} {l : List α} (h : App E n e nd w lo hi a cap l) (hw : ∀ f, lo ≤ f → f < hi → w'.heap[f]? = w.heap[f]?) : App E n e nd w' lo hi a cap l := by
 rcases h with h | ⟨g, cur, F, ha, h1, h2, h3, h4, h5, h6, h7, h8, h9, h10⟩
 ·exact Or.inl h
 ·have hf : ∀ f ∈ F, w'.heap[f]? = w.heap[f]? := fun f hf => hw f (h10 f hf).1 (h10 f hf).2.1
  refine Or.inr ⟨g, cur, F, ha, h1, h2, (hw g h1 h2).trans h3, h4, h5, h6, h7.agree hE.loc l (Cells.of_block (hw g h1 h2) _ _) hf, h8, h9, fun f hm => ⟨(h10 f hm).1, (h10 f hm).2.1, (h10 f hm).2.2.agree (hf f hm)⟩⟩
theorem Is.set {w : World} {g : Nat} {e : TypeId} {cs : Array Value} (h : Is w g e cs) (i : Nat) (v : Value) : Is (w.setCell ⟨g, i, none⟩ v) g e (cs.setIfInBounds i v) := by
 unfold Is at *
 simp [World.setCell, Array.getElem?_modify, h]
theorem Is.miss {w : World} {g : Nat} {e : TypeId} {cs : Array Value} (h : Is w g e cs) (b i : Nat) (hb : g ≠ b) (v : Value) : Is (w.setCell ⟨b, i, none⟩ v) g e cs := (heap_miss w b i g hb v).trans h
theorem TV.box {w : World} {a : Option Addr} {cap : Nat} {t : T} {G : List Nat} (e : TypeId) (h : TL w a cap t.l G) (hwf : Wf t) (hG : ∀ f ∈ G, f < w.heap.size) : TV (w.alloc (.cells (cV t a cap) e)) w.heap.size 0 t G := by
 obtain ⟨c0, c1, c2, c3, c4⟩ := (Is.new w (cV t a cap) e).cells5
 rw [← T.eta t, TV.iff]
 exact ⟨c0, c1, c2, c3, hwf.1, hwf.2.1, hwf.2.2.1, hwf.2.2.2, a, cap, c4, h.agree (fun f hf => (below1 w _).block f (hG f hf))⟩
theorem Unf.alloc {w : World} {f : Nat} (h : Unf w f) (o : Obj) : Unf (w.alloc o) f := h.agree ((below1 w o).block f h.lt)
theorem out5 {W : World} {g : Nat} {e : TypeId} (hk : Blk W g e 5) (v0 v1 v2 v3 v4 : Value) (B : Nat) (hB : B ≤ g) :
  (((((W.setCell ⟨g, 0, none⟩ v0).setCell ⟨g, 1, none⟩ v1).setCell ⟨g, 2, none⟩ v2).setCell ⟨g, 3, none⟩ v3).setCell ⟨g, 4, none⟩ v4).cell? ⟨g, 0, none⟩ = some v0 ∧
  (((((W.setCell ⟨g, 0, none⟩ v0).setCell ⟨g, 1, none⟩ v1).setCell ⟨g, 2, none⟩ v2).setCell ⟨g, 3, none⟩ v3).setCell ⟨g, 4, none⟩ v4).cell? ⟨g, 1, none⟩ = some v1 ∧
  (((((W.setCell ⟨g, 0, none⟩ v0).setCell ⟨g, 1, none⟩ v1).setCell ⟨g, 2, none⟩ v2).setCell ⟨g, 3, none⟩ v3).setCell ⟨g, 4, none⟩ v4).cell? ⟨g, 2, none⟩ = some v2 ∧
  (((((W.setCell ⟨g, 0, none⟩ v0).setCell ⟨g, 1, none⟩ v1).setCell ⟨g, 2, none⟩ v2).setCell ⟨g, 3, none⟩ v3).setCell ⟨g, 4, none⟩ v4).cell? ⟨g, 3, none⟩ = some v3 ∧
  (((((W.setCell ⟨g, 0, none⟩ v0).setCell ⟨g, 1, none⟩ v1).setCell ⟨g, 2, none⟩ v2).setCell ⟨g, 3, none⟩ v3).setCell ⟨g, 4, none⟩ v4).cell? ⟨g, 4, none⟩ = some v4 ∧
  Below B W (((((W.setCell ⟨g, 0, none⟩ v0).setCell ⟨g, 1, none⟩ v1).setCell ⟨g, 2, none⟩ v2).setCell ⟨g, 3, none⟩ v3).setCell ⟨g, 4, none⟩ v4) ∧
  (∀ f, f ≠ g → (((((W.setCell ⟨g, 0, none⟩ v0).setCell ⟨g, 1, none⟩ v1).setCell ⟨g, 2, none⟩ v2).setCell ⟨g, 3, none⟩ v3).setCell ⟨g, 4, none⟩ v4).heap[f]? = W.heap[f]?) ∧
  (((((W.setCell ⟨g, 0, none⟩ v0).setCell ⟨g, 1, none⟩ v1).setCell ⟨g, 2, none⟩ v2).setCell ⟨g, 3, none⟩ v3).setCell ⟨g, 4, none⟩ v4).heap.size = W.heap.size := by
 obtain ⟨e0, e1, e2, e3, e4⟩ := st5_reads (o := 0) (v0 := v0) (v1 := v1) (v2 := v2) (v3 := v3) (v4 := v4) hk (by omega)
 have hb := st5_below (w := W) (g := g) (o := 0) (v0 := v0) (v1 := v1) (v2 := v2) (v3 := v3) (v4 := v4) B hB
 have hh := fun f (hf : f ≠ g) => st5_heap (w := W) (g := g) (o := 0) (v0 := v0) (v1 := v1) (v2 := v2) (v3 := v3) (v4 := v4) f hf
 have hs := st5_size (w := W) (g := g) (o := 0) (v0 := v0) (v1 := v1) (v2 := v2) (v3 := v3) (v4 := v4)
 simp only [st5, Nat.zero_add] at e0 e1 e2 e3 e4 hb hh hs
 exact ⟨e0, e1, e2, e3, e4, hb, hh, hs⟩
abbrev zV : Array Value := #[Value.int IntKind.i64 0, Value.int IntKind.i64 0, Value.int IntKind.i64 0, Value.string ⟨#[]⟩, Value.slice none 0 0]
set_option maxHeartbeats 1000000 in
theorem spec_l6Copy : ∀ t : T, ∀ (a : Option Addr) (cap B : Nat) (w : World), R w B a cap t.l → Wf t → B ≤ w.heap.size → T.count t ≤ 1073741824 →
  Calls Tryz.prog 82 #[.agg (cV t a cap)] w fun e w' => ∃ a' cap', e = .returned (.agg (cV t a' cap')) ∧ Own w' w.heap.size w'.heap.size a' cap' t.l ∧ Below w.heap.size w w' := by
 intro t
 induction t using T.ind with
 | h k n x s l ih =>
  intro a cap B w hr hwf hB hct
  have IH := Lib.hid ih; clear ih
  simp only [cV, T.k, T.n, T.x, T.s, T.l] at hr ⊢
  simp only [T.count] at hct
  obtain ⟨hl1, hl2⟩ := hr.len
  have hlc := T.length_le_countL l
  have HR := Lib.hid hr; clear hr hwf
  go_enter Tryz.func82, Tryz.ntmps82
  go_wp2_with fail
  generalize hW : (((w.alloc (Obj.cells #[Value.int IntKind.i64 k, Value.int IntKind.i64 n, Value.int IntKind.i64 x, Value.string s, Value.slice a l.length cap] 26)).alloc (Obj.cells zV 26)).alloc (Obj.cells #[Value.int IntKind.i64 k, Value.int IntKind.i64 n, Value.int IntKind.i64 x, Value.string s, Value.slice (some ⟨w.heap.size + 1 + 1 + 1, 0, none⟩) 0 0] 26)).alloc (Obj.cells #[] 26) = W0
  have q1 : Is W0 w.heap.size 26 #[Value.int IntKind.i64 k, Value.int IntKind.i64 n, Value.int IntKind.i64 x, Value.string s, Value.slice a l.length cap] := by subst hW; exact (((Is.new _ _ _).alloc _).alloc _).alloc _
  have q2 : Is W0 (w.heap.size + 1) 26 zV := by subst hW; exact ((Is.new2 _ _ _ _).alloc _).alloc _
  have q3 : Is W0 (w.heap.size + 1 + 1) 26 #[Value.int IntKind.i64 k, Value.int IntKind.i64 n, Value.int IntKind.i64 x, Value.string s, Value.slice (some ⟨w.heap.size + 1 + 1 + 1, 0, none⟩) 0 0] := by subst hW; exact (Is.new3 _ _ _ _ _).alloc _
  have hs0 : W0.heap.size = w.heap.size + 4 := by subst hW; simp
  have happ0 : App TV 5 26 True W0 (w.heap.size + 3) W0.heap.size (some ⟨w.heap.size + 1 + 1 + 1, 0, none⟩) 0 [] := by
   subst hW
   have := App.empty (E := TV) (n := 5) (e := 26) (nd := True) (((w.alloc (Obj.cells #[Value.int IntKind.i64 k, Value.int IntKind.i64 n, Value.int IntKind.i64 x, Value.string s, Value.slice a l.length cap] 26)).alloc (Obj.cells zV 26)).alloc (Obj.cells #[Value.int IntKind.i64 k, Value.int IntKind.i64 n, Value.int IntKind.i64 x, Value.string s, Value.slice (some ⟨w.heap.size + 1 + 1 + 1, 0, none⟩) 0 0] 26)) (w.heap.size + 3) (w.heap.size + 4) (by simp) (by simp)
   simp only [size_alloc] at this ⊢
   exact this.more (Nat.le_refl _) (by omega)
  have H0 := Lib.hid (show Below w.heap.size w W0 from by subst hW; exact ((below3 _ _ _ _)).alloc (by simp; omega) _)
  clear hW
  have HC := Lib.hid hct; clear hct
  go_loopw [4, 5] (fun i _ wr => ∃ (j : Nat) (ar : Option Addr) (cr : Nat), j ≤ l.length ∧ i = .int .i64 j ∧ Is wr (w.heap.size + 1 + 1) 26 #[Value.int IntKind.i64 k, Value.int IntKind.i64 n, Value.int IntKind.i64 x, Value.string s, Value.slice ar (l.take j).length cr] ∧ App TV 5 26 True wr (w.heap.size + 3) wr.heap.size ar cr (l.take j) ∧ Below (w.heap.size + 2) W0 wr) (fun i _ _ => l.length - (intOf i).toNat)
  case atStart => exact ⟨0, _, _, Nat.zero_le _, rfl, q3, happ0, Below.refl _ _⟩
  case round =>
   obtain ⟨j, ar, cr, hj, rfl, hout, happ, hb⟩ := hrel
   have hbs := hb.size
   have hlen : (l.take j).length = j := by rw [List.length_take]; omega
   have hlb1 : w.heap.size < wr.heap.size := by omega
   have hlb2 : w.heap.size + 1 + 1 < wr.heap.size := by omega
   by_cases hlt : j < l.length
   ·obtain ⟨r0, r1, r2, r3, r4⟩ := (q1.below hb (by omega)).cells5
    obtain ⟨b, o, a2, cap2, rfl, hbl, d0, d1, d2, d3, d4, hwf, hq⟩ := ((HR.out.below H0.out hB).below hb (by omega)).get j hlt
    have hcj := T.count_get l j hlt
    have hlb : b < wr.heap.size := by omega
    have HWF := Lib.hid hwf; clear hwf
    have HA := Lib.hid happ; clear happ
    go_wp2_with fail
    refine (IH.out l[j] (List.getElem_mem hlt) a2 cap2 B _ hq HWF.out (by omega) (by have := HC.out; omega)).mono ?_
    rintro e w2 ⟨a3, cap3, rfl, hown, hb2⟩
    obtain ⟨G, g1, g2, g3⟩ := hown
    have hs2 := hb2.size
    have hlb3 : w.heap.size + 1 + 1 < w2.heap.size := by omega
    have hout2 := hout.below hb2 (by omega)
    have ff := fun i => hout2.frozen i
    obtain ⟨o0, o1, o2, o3, o4⟩ := hout2.cells5
    have H2 := Lib.hid (below1 w2 (.cells (cV l[j] a3 cap3) 26))
    have HB2 := Lib.hid hb2
    have HN := Lib.hid ((((HA.out.below TV.elem hb2 (Nat.le_refl _)).below TV.elem H2.out (by omega))).below TV.elem (below1 (w2.alloc (.cells (cV l[j] a3 cap3) 26)) (.cells (cV l[j] a3 cap3) 26)) (by simp; omega))
    have HTV := Lib.hid (TV.box (w := w2.alloc (.cells (cV l[j] a3 cap3) 26)) 26 (g1.agree (fun f hf => H2.out.block f (g3 f hf).2.2.lt)) HWF.out (fun f hf => by have := (g3 f hf).2.2.lt; simp; omega))
    have HG := Lib.hid (show ∀ f ∈ G, wr.heap.size ≤ f ∧ f < ((w2.alloc (.cells (cV l[j] a3 cap3) 26)).alloc (.cells (cV l[j] a3 cap3) 26)).heap.size ∧ Unf ((w2.alloc (.cells (cV l[j] a3 cap3) 26)).alloc (.cells (cV l[j] a3 cap3) 26)) f from fun f hf => ⟨by have := (g3 f hf).1; omega, by have := (g3 f hf).2.1; simp; omega, ((g3 f hf).2.2.alloc _).alloc _⟩)
    have hout3 := Lib.hid ((hout2.alloc (.cells (cV l[j] a3 cap3) 26)).alloc (.cells (cV l[j] a3 cap3) 26))
    clear hb2 g1 g3 hout2
    go_wp2_with (at_builtin; refine wpList_app1 TV.elem rfl _ _ 24 rfl (.agg zV) 64 Tryz.underlying24 info_Val rfl (w.heap.size + 3) wr.heap.size ar cr (l.take j) (by first | rfl | (rw [hlen]; rfl)) HN.out (by simp; omega) (by omega) (w2.heap.size + 1) 0 1 l[j] G (by first | rfl | simp) (by first | exact HTV.out | (have := HTV.out; simpa using this)) g2 HG.out (by rw [hlen]; unfold maxLen; omega) (by rw [hlen]; have := HC.out; omega) ?_; intro ar2 cr2 w3 happ3 hb3 _; have hout4 := hout3.out.below hb3 (by omega); have ff4 := (fun i => hout4.frozen i); obtain ⟨p0, p1, p2, p3, p4⟩ := hout4.cells5)
    go_roundw
    case rel =>
     have hlt3 := hout4.lt
     refine ⟨j + 1, ar2, cr2, by omega, by go_num, ?_, ?_, ?_⟩
     ·rw [List.length_take]; exact hout4.set 4 _
     ·rw [take_snoc l j hlt]
      rw [size_set]
      exact happ3.agree TV.elem (fun f hf _ => heap_miss _ _ _ _ (by omega) _)
     ·exact (hb.trans ((HB2.out.trans ((H2.out.trans ((below1 _ _).mono (by simp))).mono (by omega))).mono (by omega))).trans ((hb3.mono (by omega)).trans (Below.setCell (Below.refl _ _) (p := ⟨w.heap.size + 1 + 1, 4, none⟩) (by simp) _))
    case measure => simp [intOf]; omega
   ·have hjj : l.length = j := by omega
    have HJ := Lib.hid (show l.take j = l from by rw [← hjj, List.take_length])
    rw [HJ.out] at happ hout
    have p1 := q1.below hb (by omega)
    have p2 := q2.below hb (by omega)
    have f2 := fun i => p2.frozen i
    obtain ⟨r0, r1, r2, r3, r4⟩ := p1.cells5
    obtain ⟨o0, o1, o2, o3, o4⟩ := p2.cells5
    obtain ⟨t0, t1, t2, t3, t4⟩ := hout.cells5
    have hlb3 : w.heap.size + 1 < wr.heap.size := by omega
    clear hjj
    go_wp2_with fail
    obtain ⟨e0, e1, e2, e3, e4, hbel, hold, hsz⟩ := out5 p2.blk (.int .i64 k) (.int .i64 n) (.int .i64 x) (.string s) (.slice ar l.length cr) w.heap.size (by omega)
    refine bodyPost_ret (v := .agg #[.int .i64 k, .int .i64 n, .int .i64 x, .string s, .slice ar l.length cr]) (by simp [results, Tryz.results82, go_sem, e0, e1, e2, e3, e4]) rfl ⟨ar, cr, rfl, ?_, ?_⟩
    ·rw [hsz]
     exact ((Own.ow.2 happ.own).agree (fun f h1 h2 => hold f (by omega))).more (by omega) (Nat.le_refl _)
    ·exact (H0.out.trans (hb.mono (by omega))).trans hbel
def rawI (t : T) (s : St) : Int := if t.k = 10 then (if s.2 then 2 * s.1 else 2 * s.1 + 1) else s.1
def okI (t : T) (s : St) : Prop := 0 ≤ s.1 ∧ (s.2 = true → t.k = 10) ∧ rawI t s < t.l.length
instance (t : T) (s : St) : Decidable (okI t s) := by unfold okI; exact inferInstance
def zT : T := .mk 0 0 0 ⟨#[]⟩ []
theorem Is.drew {w : World} {g : Nat} {e : TypeId} {cs : Array Value} (h : Is w g e cs) : Is w.drew g e cs := h
section
variable {α : Type} {E : World → Nat → Nat → α → List Nat → Prop} {n : Nat} {e : TypeId}
def AppL (E : World → Nat → Nat → α → List Nat → Prop) (n : Nat) (e : TypeId) (w : World) (rlo : Nat) (a : Option Addr) (cap : Nat) (l : List α) (F : List Nat) : Prop :=
 (a = none ∧ cap = 0 ∧ l = [] ∧ F = []) ∨ ∃ g cur, a = some ⟨g, 0, none⟩ ∧ rlo ≤ g ∧ w.heap[g]? = some (.cells cur e (0, 0)) ∧ l.length ≤ cap ∧ cap ≤ maxLen ∧ cur.size = cap * n ∧ Row E n w g 0 l F ∧ ∀ f ∈ F, f < rlo
theorem AppL.empty (w : World) (rlo : Nat) (hl : rlo ≤ w.heap.size) : AppL E n e (w.alloc (.cells #[] e)) rlo (some ⟨w.heap.size, 0, none⟩) 0 [] [] :=
 Or.inr ⟨w.heap.size, #[], rfl, hl, heap_alloc_new w _, Nat.le_refl _, by simp [maxLen], by simp, rfl, by simp⟩
theorem AppL.agree (hE : Elem E n) {w w' : World} {rlo cap : Nat} {a : Option Addr} {l : List α} {F : List Nat} (h : AppL E n e w rlo a cap l F) (hw : ∀ f, f < w.heap.size → w'.heap[f]? = w.heap[f]?) (hr : rlo ≤ w.heap.size) : AppL E n e w' rlo a cap l F := by
 rcases h with h | ⟨g, cur, ha, h1, h3, h4, h5, h6, h7, h8⟩
 ·exact Or.inl h
 ·have hg : g < w.heap.size := (Array.getElem?_eq_some_iff.1 h3).1
  exact Or.inr ⟨g, cur, ha, h1, (hw g hg).trans h3, h4, h5, h6, h7.agree hE.loc l (Cells.of_block (hw g hg) _ _) (fun f hf => hw f (by have := h8 f hf; omega)), h8⟩
theorem AppL.lt {w : World} {rlo cap : Nat} {a : Option Addr} {l : List α} {F : List Nat} (h : AppL E n e w rlo a cap l F) : ∀ f ∈ F, f < rlo := by
 rcases h with ⟨_, _, _, rfl⟩ | ⟨g, cur, ha, h1, h3, h4, h5, h6, h7, h8⟩
 ·simp
 ·exact h8
theorem AppL.own {w : World} {rlo lo cap : Nat} {a : Option Addr} {l : List α} {F : List Nat} (h : AppL E n e w rlo a cap l F) (hn : F.Nodup) (hlo : lo ≤ rlo) (hF : ∀ f ∈ F, lo ≤ f ∧ Unf w f) : Ow E n w lo w.heap.size a cap l := by
 rcases h with ⟨rfl, rfl, rfl, rfl⟩ | ⟨g, cur, rfl, h1, h3, h4, h5, h6, h7, h8⟩
 ·exact Ow.nil _ _ _ _ _ (by simp [maxLen])
 ·have hg : g < w.heap.size := (Array.getElem?_eq_some_iff.1 h3).1
  by_cases hl : l = []
  ·subst hl; exact Ow.nil _ _ _ _ _ h5
  ·refine ⟨g :: F, ⟨h4, h5, fun h => absurd h hl, fun _ => ⟨g, 0, F, rfl, rfl, h7⟩⟩, List.nodup_cons.2 ⟨fun hm => by have := h8 g hm; omega, hn⟩, ?_⟩
   intro f hf
   rcases List.mem_cons.1 hf with rfl | hf
   ·exact ⟨by omega, hg, ⟨_, _, h3⟩⟩
   ·exact ⟨(hF f hf).1, (hF f hf).2.lt, (hF f hf).2⟩
theorem AppL.owns {w : World} {rlo cap : Nat} {a : Option Addr} {l : List α} {F : List Nat} (h : AppL E n e w rlo a cap l F) :
  ∃ xs : List Value, w.ownsRow rlo e n (.slice a l.length cap) l.length xs ∧ xs.length = l.length * n ∧ ∀ g, a = some ⟨g, 0, none⟩ → ∀ i, i < l.length * n → w.cell? ⟨g, 0 + i, none⟩ = xs[i]? := by
 rcases h with ⟨rfl, rfl, rfl, rfl⟩ | ⟨g, cur, rfl, h1, h3, h4, h5, h6, h7, h8⟩
 ·exact ⟨[], World.ownsRow_nil _ _ _ _, by simp, by simp⟩
 ·have hle : l.length * n ≤ cur.size := by rw [h6]; exact Nat.mul_le_mul_right _ h4
  have hl : (cur.toList.take (l.length * n)).length = l.length * n := by simp; omega
  refine ⟨cur.toList.take (l.length * n), ⟨hl, Or.inr ⟨g, cap, cur, rfl, h1, h3, h4, h5, h6, rfl⟩⟩, hl, ?_⟩
  intro g2 hg2 i hi
  injection hg2 with hg2
  injection hg2 with hg2
  subst hg2
  rw [Nat.zero_add, List.getElem?_take, if_pos hi]
  simp [World.cell?, h3]
theorem AppL.grown (hE : Elem E n) {w w' : World} {rlo cap cap' : Nat} {a : Option Addr} {l ys : List α} {F G : List Nat} {b o g' : Nat} {news xs : List Value}
  (h : AppL E n e w rlo a cap l F) (hys : Row E n w b o ys G) (hG : ∀ f ∈ G, f < rlo) (hr : rlo ≤ w.heap.size)
  (hnl : news.length = ys.length * n) (hnc : ∀ i, i < ys.length * n → w.cell? ⟨b, o + i, none⟩ = news[i]?) (hxs : ∀ g, a = some ⟨g, 0, none⟩ → ∀ i, i < l.length * n → w.cell? ⟨g, 0 + i, none⟩ = xs[i]?) (hxl : xs.length = l.length * n)
  (hown : w'.ownsRow rlo e n (.slice (some ⟨g', 0, none⟩) (l.length + ys.length) cap') (l.length + ys.length) (xs ++ news)) (hgr : w.grownBy w' (Value.slice a l.length cap).ownBlock) :
  AppL E n e w' rlo (some ⟨g', 0, none⟩) cap' (l ++ ys) (F ++ G) ∧ Below rlo w w' := by
 have hrow : ∃ cur, w'.heap[g']? = some (.cells cur e (0, 0)) ∧ l.length + ys.length ≤ cap' ∧ cap' ≤ maxLen ∧ cur.size = cap' * n ∧ cur.toList.take ((l.length + ys.length) * n) = xs ++ news ∧ rlo ≤ g' := by
  rcases hown.2 with ⟨h0, _⟩ | ⟨g, cap2, cur, hv, hb, hg, h1, h2, h3, h4⟩
  ·cases h0
  ·injection hv with hv1 hv2 hv3
   injection hv1 with hv1
   injection hv1 with hv1
   subst hv1 hv3
   exact ⟨cur, hg, h1, h2, h3, h4, hb⟩
 obtain ⟨cur, r1, r2, r3, r4, r5, r6⟩ := hrow
 have hcell : ∀ i, i < (l.length + ys.length) * n → w'.cell? ⟨g', i, none⟩ = (xs ++ news)[i]? := by
  intro i hi
  rw [← r5, List.getElem?_take, if_pos hi]
  simp [World.cell?, r1]
 have hmul : (l.length + ys.length) * n = l.length * n + ys.length * n := Nat.add_mul _ _ _
 have hold : ∀ k, (Value.slice a l.length cap).ownBlock = some k → rlo ≤ k := by
  intro k hk
  rcases h with ⟨rfl, rfl, rfl, _⟩ | ⟨g, cur0, rfl, k1, _⟩
  ·simp [Value.ownBlock] at hk
  ·simp [Value.ownBlock] at hk; omega
 have hlow : ∀ f, f < rlo → w'.heap[f]? = w.heap[f]? := fun f hf => hgr.block f (by omega) (fun e => by have := hold f e.symm; omega)
 refine ⟨?_, hgr.os, hgr.tape, hgr.output, hgr.size, hlow⟩
 have hyr : Row E n w' g' (0 + l.length * n) ys G := by
  refine hys.mov hE ys (fun i hi => ?_) (fun f hf => hlow f (hG f hf))
  rw [Nat.zero_add, hcell _ (by omega), List.getElem?_append_right (by omega), hnc i hi, hxl]
  congr 1; omega
 rcases h with ⟨rfl, rfl, rfl, rfl⟩ | ⟨g, cur0, rfl, k1, h3, h4, h5, h6, h7, h8⟩
 ·exact Or.inr ⟨g', cur, rfl, r6, r1, by simpa using r2, r3, r4, by simpa using hyr, by simpa using hG⟩
 ·have hlr : Row E n w' g' 0 l F := by
   refine h7.mov hE l (fun i hi => ?_) (fun f hf => hlow f (h8 f hf))
   rw [Nat.zero_add, hcell _ (by omega), List.getElem?_append_left (by omega)]
   have := hxs g rfl i hi
   rw [Nat.zero_add] at this
   exact this.symm
  refine Or.inr ⟨g', cur, rfl, r6, r1, by simpa using r2, r3, r4, hlr.append hyr, fun f hf => ?_⟩
  rcases List.mem_append.1 hf with hf | hf
  ·exact h8 f hf
  ·exact hG f hf
theorem wpList_appL {P : Program} {w : World} (hE : Elem E n) {ops : Array Oper} {rest : List Oper} {o : Oper} {act : Act} {Q : Exit → Act → World → Prop} (hgd : o.guard = none) (s x : Operand) (t : TypeId)
  (ho : o.op = .call { callee := .builtin .append, args := #[s, x], argTypes := #[t, t] }) (z : Value) (bytes : Nat) (ht : P.underlying t = some (.slice e)) (hinfo : (P.info? e).map (fun i => (i.zero, i.size, i.bytes)) = some (some z, n, bytes)) (hzs : z.cells.size = n)
  (rlo : Nat) (a : Option Addr) (cap : Nat) (l : List α) (F : List Nat) (hs : act.eval s = .slice a l.length cap) (happ : AppL E n e w rlo a cap l F) (hlo : rlo ≤ w.heap.size)
  (b off m c : Nat) (ys : List α) (G : List Nat) (hx : act.eval x = .slice (some ⟨b, off, none⟩) m c) (hm : ys.length = m) (hys : Row E n w b off ys G) (hG : ∀ f ∈ G, f < rlo)
  (hpos : 0 < m) (h63 : l.length + m ≤ maxLen) (hbytes : (l.length + m) * bytes ≤ 140737488355328)
  (h : ∀ a' cap' w', AppL E n e w' rlo a' cap' (l ++ ys) (F ++ G) → Below rlo w w' → wpList P ops Q rest (act.put o.dst (.slice a' (l ++ ys).length cap')) w') : wpList P ops Q (o :: rest) act w := by
 obtain ⟨i, hi', hz0, hz1, hz2⟩ := info_parts hinfo
 obtain ⟨xs, q1, q2, q3⟩ := happ.owns
 subst hm
 obtain ⟨news, n1, n2, n3⟩ := cells_list (hys.cel hE ys)
 refine wpList_append_lies w hgd s x t ho rlo e i z n bytes ht hi' hz0 hz1 hz2 hzs hE.pos (.slice a l.length cap) l.length xs hs q1 ⟨b, off, none⟩ ys.length c news hx n1 (fun j u hj => ?_) n3 hpos h63 hbytes hlo w.heap.size rfl (fun g' cap' w' hown hgr hat hlt => ?_)
 ·have hj2 : j < ys.length * n := by
   rcases Nat.lt_or_ge j (ys.length * n) with h | h
   ·exact h
   ·rw [List.getElem?_eq_none (by omega)] at hj; cases hj
  rw [← hj, ← n2 j hj2, Addr.add_lit]
 ·obtain ⟨r1, r2⟩ := AppL.grown hE happ hys hG hlo n1 n2 q3 q2 hown hgr
  have := h _ _ w' r1 r2
  rwa [List.length_append] at this
end
end Go.Proofs.YtggdenkmohnijaaGreatDoor
