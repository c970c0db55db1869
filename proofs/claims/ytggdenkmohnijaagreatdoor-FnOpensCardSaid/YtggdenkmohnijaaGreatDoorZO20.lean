/- Texts of this proof, merged: Drw9, MrkR, Once1. No condition beyond what each theorem states. -/
import Derived.Test.YtggdenkmohnijaaGreatDoorZO19
set_option linter.unusedSimpArgs false
set_option linter.unnecessarySimpa false
namespace Go.Proofs.YtggdenkmohnijaaGreatDoor
open Go.ChangeShapes Go.WideShapes Go.ChangeAt Go.RowKit Go.Joins
set_option linter.unusedVariables false
set_option maxRecDepth 100000
section
variable {α : Type} {E : World → Nat → Nat → α → List Nat → Prop} {n : Nat} {e : TypeId} {nd : Prop}
def EX (X : Nat) (E : World → Nat → Nat → α → List Nat → Prop) (w : World) (b o : Nat) (x : α) (F : List Nat) : Prop := E w b o x F ∧ X ∉ F
theorem EX.elem (X : Nat) (h : Elem E n) : Elem (EX X E) n :=
 ⟨h.pos, fun x {_ _ _ _ _ _ _} hx hc hF => ⟨h.mov x hx.1 hc hF, hx.2⟩, fun x {_ _ _ _} hx => h.cel x hx.1⟩
theorem Row.ex {X : Nat} {w : World} {b : Nat} : ∀ {l : List α} {o : Nat} {F : List Nat}, Row E n w b o l F → X ∉ F → Row (EX X E) n w b o l F := by
 intro l
 induction l with
 | nil => intro o F h _; exact h
 | cons x r ih =>
  intro o F h hX
  obtain ⟨F1, F2, rfl, h1, h2⟩ := h
  simp only [List.mem_append, not_or] at hX
  exact ⟨F1, F2, rfl, ⟨h1, hX.1⟩, ih h2 hX.2⟩
theorem Row.unex {X : Nat} {w : World} {b : Nat} : ∀ {l : List α} {o : Nat} {F : List Nat}, Row (EX X E) n w b o l F → Row E n w b o l F ∧ X ∉ F := by
 intro l
 induction l with
 | nil => intro o F h; obtain rfl : F = [] := h; exact ⟨rfl, by simp⟩
 | cons x r ih =>
  intro o F h
  obtain ⟨F1, F2, rfl, h1, h2⟩ := h
  obtain ⟨h3, h4⟩ := ih h2
  exact ⟨⟨F1, F2, rfl, h1.1, h3⟩, by simp [h1.2, h4]⟩
theorem App.ex {X : Nat} {w : World} {lo hi cap : Nat} {a : Option Addr} {l : List α} (h : App E n e nd w lo hi a cap l) (hX : hi ≤ X) : App (EX X E) n e nd w lo hi a cap l := by
 rcases h with h | ⟨g, cur, F, ha, k1, k2, h3, h4, h5, h6, h7, h8, h9, h10⟩
 ·exact Or.inl h
 ·exact Or.inr ⟨g, cur, F, ha, k1, k2, h3, h4, h5, h6, h7.ex (fun hm => by have := (h10 X hm).2.1; omega), h8, h9, h10⟩
def Rq (E : World → Nat → Nat → α → List Nat → Prop) (n : Nat) (w : World) (lo X : Nat) (a : Option Addr) (cap : Nat) (l : List α) : Prop := ∃ F, Sl E n w a cap l F ∧ ∀ f ∈ F, lo ≤ f ∧ f ≠ X ∧ f < w.heap.size
theorem App.rq {X : Nat} {w : World} {lo hi cap : Nat} {a : Option Addr} {l : List α} (h : App (EX X E) n e nd w lo hi a cap l) (hk : ∀ k, (Value.slice a l.length cap).ownBlock = Option.some k → k ≠ X) (hh : hi ≤ w.heap.size) : Rq E n w lo X a cap l := by
 rcases h with ⟨rfl, rfl, rfl⟩ | ⟨g, cur, F, rfl, k1, k2, h3, h4, h5, h6, h7, h8, h9, h10⟩
 ·exact ⟨[], Sl.nil _ _ _ (by simp [maxLen]), by simp⟩
 ·by_cases hl : l = []
  ·subst hl; exact ⟨[], Sl.nil _ _ _ h5, by simp⟩
  ·have hgX : g ≠ X := hk g rfl
   obtain ⟨q1, q2⟩ := h7.unex
   refine ⟨g :: F, ⟨h4, h5, fun h => absurd h hl, fun _ => ⟨g, 0, F, rfl, rfl, q1⟩⟩, ?_⟩
   intro f hf
   rcases List.mem_cons.1 hf with rfl | hf
   ·exact ⟨k1, hgX, by omega⟩
   ·exact ⟨(h10 f hf).1, fun e => q2 (e ▸ hf), by have := (h10 f hf).2.1; omega⟩
theorem Rq.agree (hE : Loc E n) {w w' : World} {lo X cap : Nat} {a : Option Addr} {l : List α} (h : Rq E n w lo X a cap l) (hw : ∀ f, lo ≤ f → f ≠ X → f < w.heap.size → w'.heap[f]? = w.heap[f]?) (hs : w.heap.size ≤ w'.heap.size) : Rq E n w' lo X a cap l := by
 obtain ⟨F, h1, h2⟩ := h
 exact ⟨F, h1.agree hE (fun f hf => hw f (h2 f hf).1 (h2 f hf).2.1 (h2 f hf).2.2), fun f hf => ⟨(h2 f hf).1, (h2 f hf).2.1, by have := (h2 f hf).2.2; omega⟩⟩
theorem run_app3 {P : Program} (w : World) (hE : Elem E n) (t ty : TypeId) (z : Value) (bytes : Nat) (ht : P.underlying t = some (.slice e)) (hinfo : (P.info? e).map (fun i => (i.zero, i.size, i.bytes)) = some (some z, n, bytes)) (hzs : z.cells.size = n)
  (lo hi : Nat) (a : Option Addr) (cap : Nat) (l : List α) (happ : App E n e nd w lo hi a cap l) (hhi : hi ≤ w.heap.size) (hlo : lo ≤ hi)
  (b off c2 : Nat) (y : α) (G : List Nat) (hy : E w b off y G) (hG : G.Nodup) (hG2 : ∀ f ∈ G, hi ≤ f ∧ f < w.heap.size ∧ Unf w f) (h63 : l.length + 1 ≤ maxLen) (hbytes : (l.length + 1) * bytes ≤ 140737488355328) :
  ∃ a' cap' w', (Builtin.append_ #[t, t] ty #[.slice a l.length cap, .slice (some ⟨b, off, none⟩) 1 c2]).run P w = .ok (.slice a' (l ++ [y]).length cap') w' ∧ App E n e nd w' lo w'.heap.size a' cap' (l ++ [y]) ∧ Below lo w w' ∧
   (∀ f, f < w.heap.size → (∀ k, (Value.slice a l.length cap).ownBlock = some k → f ≠ k) → w'.heap[f]? = w.heap[f]?) ∧ w.heap.size ≤ w'.heap.size ∧ (∀ k, (Value.slice a' (l ++ [y]).length cap').ownBlock = some k → (Value.slice a l.length cap).ownBlock = some k ∨ k = w.heap.size) := by
 obtain ⟨i, hi', hz0, hz1, hz2⟩ := info_parts hinfo
 have hrow : Row E n w b off [y] G := ⟨G, [], by simp, hy, rfl⟩
 obtain ⟨xs, q1, q2, q3⟩ := happ.owns hE
 obtain ⟨news, n1, n2, n3⟩ := cells_list (hrow.cel hE [y])
 obtain ⟨g', cap', w', hr, hown, hgr, hat, hlt⟩ := run_append_lies (P := P) w t ty lo e i z n bytes ht hi' hz0 hz1 hz2 hzs hE.pos (.slice a l.length cap) l.length xs q1 ⟨b, off, none⟩ 1 c2 news n1 (fun j u hj => by
  have hj2 : j < 1 * n := by
   rcases Nat.lt_or_ge j (1 * n) with h | h
   ·exact h
   ·rw [List.getElem?_eq_none (by simp at n1; omega)] at hj; cases hj
  rw [← hj, ← n2 j hj2, Addr.add_lit]) n3 (by omega) h63 hbytes (by omega) w.heap.size rfl
 obtain ⟨r1, r2, r3⟩ := App.grown hE happ hhi hrow (fun _ => hG) (fun f hf => ⟨Nat.le_trans hlo (hG2 f hf).1, (hG2 f hf).2.1, (hG2 f hf).2.2, fun k hk => by have := (happ.row k hk).2; have := (hG2 f hf).1; omega⟩) (fun _ f hf => (hG2 f hf).1) n1 n2 q3 q2 hown hgr hat hlt
 rw [List.length_append]
 exact ⟨_, cap', w', hr, r1, r2 (by omega), r3, hgr.size, fun k hk => by
  have hk' : k = g' := by
   simp only [Value.ownBlock] at hk
   first | exact (Option.some.inj hk).symm | (split at hk <;> simp_all)
  subst hk'; exact hat⟩
end
set_option maxHeartbeats 4000000 in
theorem spec_l6Val (A : Nat) (w : World) (hc : Cur w A) : Calls Tryz.prog 62 #[.pointer (some ⟨A, 0, none⟩)] w fun e w' => DrewT A 1920 4 w e w' := by
 have hlA := hc.lt
 have HC0 := Lib.hid (hc.below (below1 w (.cells zV 26)) hlA)
 have HK0 := Lib.hid (Kp.alloc (w := w) (Nat.le_of_lt hlA) (.cells zV 26))
 have HI0 := Lib.hid (Is.new w zV 26)
 clear hc
 go_enter Tryz.func62, Tryz.ntmps62
 go_wp2_with fail
 refine (spec_l1Below A 4 _ HC0.out ⟨by decide, by decide⟩).mono ?_
 rintro e w2 ⟨k, rfl, hk, _, hc2, hk2⟩
 have HC2 := Lib.hid hc2; have HI2 := Lib.hid (hk2.is HI0.out (by omega)); have HK2 := Lib.hid (HK0.out.trans hk2); clear hc2 hk2 HI0 HK0 HC0
 have hl2 := HI2.out.lt
 go_wp2_with fail
 refine (spec_l6Draw A k (by omega) w2 HC2.out).mono ?_
 rintro e w3 ⟨t, a, c, rfl, htw, hts, htz, htd, happ, hc3, hk3⟩
 have HTD := Lib.hid htd; clear htd
 have HC3 := Lib.hid hc3; have HI3 := Lib.hid (hk3.is HI2.out (by omega)); have HK3 := Lib.hid (HK2.out.trans hk3); have hs3 := hk3.size; have HA3 := Lib.hid happ; clear hc3 hk3 happ
 have hp := pow4_le k (by omega)
 have ff := fun i => HI3.out.frozen i; have lg := HI3.out.lt; obtain ⟨z0, z1, z2, z3, z4⟩ := HI3.out.cells5
 go_wp2_with fail
 obtain ⟨e0, e1, e2, e3, e4, hcf, hkf, hof, hsf⟩ := fin5 (.int .i64 t.k) (.int .i64 t.n) (.int .i64 t.x) (.string t.s) (.slice a t.l.length c) HI3.out.blk HK3.out (Nat.le_refl _) HC3.out hlA
 refine bodyPost_ret (v := .agg (cV t a c)) (by simp [results, Tryz.results62, go_sem, e0, e1, e2, e3, e4]) rfl ⟨t, a, c, rfl, htw, hts, by omega, HTD.out.more (by omega), ?_, hcf, hkf⟩
 rw [hsf]
 exact (HA3.out.agree TV.elem (fun f h1 _ => hof f (by omega))).more (by omega) (Nat.le_refl _)
def Rn {α : Type} (E : World → Nat → Nat → α → List Nat → Prop) (n : Nat) (w : World) (lo : Nat) (a : Option Addr) (cap : Nat) (l : List α) : Prop := ∃ F, Sl E n w a cap l F ∧ ∀ f ∈ F, lo ≤ f ∧ f < w.heap.size
section
variable {α : Type} {E : World → Nat → Nat → α → List Nat → Prop} {n : Nat} {e : TypeId} {nd : Prop} {w w' : World} {lo cap : Nat} {a : Option Addr} {l : List α}
theorem Rn.agree (hE : Loc E n) (h : Rn E n w lo a cap l) (hw : ∀ f, lo ≤ f → f < w.heap.size → w'.heap[f]? = w.heap[f]?) (hs : w.heap.size ≤ w'.heap.size) : Rn E n w' lo a cap l := by
 obtain ⟨F, h1, h2⟩ := h
 exact ⟨F, h1.agree hE (fun f hf => hw f (h2 f hf).1 (h2 f hf).2), fun f hf => ⟨(h2 f hf).1, by have := (h2 f hf).2; omega⟩⟩
theorem Rn.kp (hE : Loc E n) {A : Nat} (h : Rn E n w lo a cap l) (hk : Kp A w w') (hA : A < lo) : Rn E n w' lo a cap l := h.agree hE (fun f h1 h2 => hk.heap f (by omega) h2) hk.size
theorem Rn.below (hE : Loc E n) {m : Nat} (h : Rn E n w lo a cap l) (hb : Below m w w') (hm : w.heap.size ≤ m) : Rn E n w' lo a cap l := h.agree hE (fun f h1 h2 => hb.block f (by omega)) hb.size
theorem Rn.rd (h : Rn E n w lo a cap l) : Rd E n w w.heap.size a cap l := by
 obtain ⟨F, h1, h2⟩ := h
 exact ⟨F, h1, fun f hf => (h2 f hf).2⟩
theorem Rn.less {lo' : Nat} (h : Rn E n w lo a cap l) (hl : lo' ≤ lo) : Rn E n w lo' a cap l := by
 obtain ⟨F, h1, h2⟩ := h
 exact ⟨F, h1, fun f hf => ⟨by have := (h2 f hf).1; omega, (h2 f hf).2⟩⟩
theorem App.rn {hi : Nat} (h : App E n e True w lo hi a cap l) (hh : hi ≤ w.heap.size) : Rn E n w lo a cap l := by
 obtain ⟨F, h1, _, h2⟩ := h.own
 exact ⟨F, h1, fun f hf => ⟨(h2 f hf).1, by have := (h2 f hf).2.1; omega⟩⟩
theorem Rq.rn {X : Nat} (h : Rq E n w lo X a cap l) : Rn E n w lo a cap l := by
 obtain ⟨F, h1, h2⟩ := h
 exact ⟨F, h1, fun f hf => ⟨(h2 f hf).1, (h2 f hf).2.2⟩⟩
end
def DrewX (A : Nat) (w : World) (e : Ending) (w' : World) : Prop := ∃ (t : T) (a : Option Addr) (cap : Nat), e = .returned (.agg (cV t a cap)) ∧ Wf t ∧ t.s.size ≤ 12 ∧ T.sz t ≤ 2000 ∧ T.depth t ≤ 4 ∧ Rn TV 5 w' w.heap.size a cap t.l ∧ Cur w' A ∧ Kp A w w'
theorem T.depth_eta (t : T) : T.depth t = T.depthL t.l + 1 := by cases t; simp [T.depth, T.l]
theorem T.sz_eta (t : T) : T.sz t = t.s.size + T.szL t.l := by cases t; simp [T.sz, T.s, T.l]
set_option maxHeartbeats 8000000 in
theorem spec_l6Any (A : Nat) (w : World) (hc : Cur w A) : Calls Tryz.prog 65 #[.pointer (some ⟨A, 0, none⟩)] w fun e w' => DrewX A w e w' := by
 have hlA := hc.lt
 have HC0 := Lib.hid (hc.below (below1 w (.cells zV 26)) hlA)
 have HK0 := Lib.hid (Kp.alloc (w := w) (Nat.le_of_lt hlA) (.cells zV 26))
 have HI0 := Lib.hid (Is.new w zV 26)
 clear hc
 go_enter Tryz.func65, Tryz.ntmps65
 go_wp2_with fail
 refine (spec_l6Val A _ HC0.out).mono ?_
 rintro e w2 ⟨t, a, c, rfl, htw, hts, htz, htd, happ, hc2, hk2⟩
 have HTD := Lib.hid (show T.depthL t.l + 1 ≤ 4 from by have := htd.2; rw [T.depth_eta] at this; exact this); clear htd
 rw [size_alloc] at happ
 have hl2 : w.heap.size < w2.heap.size := (hk2.is HI0.out (by omega)).lt
 have hVV := Is.new w2 (cV t a c) 26
 have HC3 := Lib.hid (hc2.below (below1 w2 (.cells (cV t a c) 26)) hc2.lt)
 have HI3 := Lib.hid ((hk2.is HI0.out (by omega)).alloc (.cells (cV t a c) 26))
 have HK3 := Lib.hid ((HK0.out.trans hk2).trans (Kp.alloc (Nat.le_of_lt hc2.lt) (.cells (cV t a c) 26)))
 have hA3 := happ.below TV.elem (below1 w2 (.cells (cV t a c) 26)) (Nat.le_refl _)
 obtain ⟨X, hXe⟩ : ∃ X, w2.heap.size = X := ⟨_, rfl⟩
 rw [hXe] at hVV hl2 hA3
 clear hc2 hk2 HI0 HK0 HC0 happ
 go_wp2_with fail
 try rw [hXe]
 generalize w2.alloc (.cells (cV t a c) 26) = W3 at *
 clear hXe
 have HV3 := Lib.hid hVV; have HA3 := Lib.hid hA3; clear hVV hA3
 have hX3 := HV3.out.lt
 refine (spec_l1Below A 12 W3 HC3.out ⟨by decide, by decide⟩).mono ?_
 rintro e w4 ⟨k, rfl, hk, _, hc4, hk4⟩
 have HC4 := Lib.hid hc4; have HI4 := Lib.hid (hk4.is HI3.out (by omega)); have HV4 := Lib.hid (hk4.is HV3.out (by omega)); have HK4 := Lib.hid (show Kp A w w4 from HK3.out.trans hk4)
 have HA4 := Lib.hid (HA3.out.kp TV.elem hk4 (by omega) (by omega)); clear hc4 hk4 HC3 HI3 HV3 HK3 HA3
 have hX4 := HV4.out.lt
 have HR4 := Lib.hid ((HA4.out.ex (X := X) (Nat.le_refl _)).rq (fun k hk => by have := (HA4.out.row k hk).2; omega) (by omega))
 have hsz := T.sz_eta t
 by_cases h5 : 5 ≤ k
 ·have hne : ∀ j : Int, j < 5 → ((k : Int) == j) = false := fun j hj => by simp; omega
  have n0 := hne 0 (by decide); have n1 := hne 1 (by decide); have n2 := hne 2 (by decide); have n3 := hne 3 (by decide); have n4 := hne 4 (by decide)
  clear hne
  have ff := fun i => HV4.out.frozen i; have lg := HV4.out.lt; obtain ⟨z0, z1, z2, z3, z4⟩ := HV4.out.cells5
  have fg := fun i => HI4.out.frozen i; have lh := HI4.out.lt; obtain ⟨y0, y1, y2, y3, y4⟩ := HI4.out.cells5
  go_wp2_with fail
  obtain ⟨e0, e1, e2, e3, e4, hcf, hkf, hof, hsf⟩ := fin5 (.int .i64 t.k) (.int .i64 t.n) (.int .i64 t.x) (.string t.s) (.slice a t.l.length c) (HI4.out).blk (HK4.out) (Nat.le_refl _) (HC4.out) hlA
  refine bodyPost_ret (v := .agg #[.int .i64 t.k, .int .i64 t.n, .int .i64 t.x, .string t.s, .slice a t.l.length c]) (by simp [results, Tryz.results65, go_sem, e0, e1, e2, e3, e4]) rfl ⟨t, a, c, rfl, htw, hts, (by omega), (by rw [T.depth_eta]; exact HTD.out), ?_, hcf, hkf⟩
  exact ((HR4.out).agree TV.elem.loc (fun f h1 _ _ => hof f (by omega)) (by rw [hsf]; omega)).rn.less (by omega)
 have HH := Lib.hid (fun (w5 : World) (hk5 : Kp A w4 w5) => HR4.out.agree TV.elem.loc (fun f h1 h2 h3 => hk5.heap f (by omega) h3) hk5.size)
 have HS := Lib.hid (fun (w5 : World) (h : Rq TV 5 w5 (w.heap.size + 1) X a c t.l) (j : Nat) (v : Value) => h.agree (w' := w5.setCell ⟨X, j, none⟩ v) TV.elem.loc (fun f h1 h2 h3 => heap_miss _ _ _ _ h2 _) (by rw [size_set]; omega))
 rcases (show k = 0 ∨ k = 1 ∨ k = 2 ∨ k = 3 ∨ k = 4 by omega) with rfl | rfl | rfl | rfl | rfl
 ·go_wp2_with fail
  refine (spec_l1Below A 14 w4 HC4.out ⟨by decide, by decide⟩).mono ?_
  rintro e w5 ⟨x, rfl, hx, _, hc5, hk5⟩
  have HC5 := Lib.hid hc5; have HI5 := Lib.hid (hk5.is HI4.out (by omega)); have HV5 := Lib.hid (hk5.is HV4.out (by omega)); have HK5 := Lib.hid (show Kp A w w5 from HK4.out.trans hk5); have HR5 := Lib.hid (HH.out w5 hk5); clear hc5 hk5
  have ff := fun i => HV5.out.frozen i; have lg := HV5.out.lt; obtain ⟨z0, z1, z2, z3, z4⟩ := HV5.out.cells5
  have fg := fun i => HI5.out.frozen i; have lh := HI5.out.lt; obtain ⟨y0, y1, y2, y3, y4⟩ := HI5.out.cells5
  go_wp2_with fail
  obtain ⟨e0, e1, e2, e3, e4, hcf, hkf, hof, hsf⟩ := fin5 (.int .i64 ((x : Int) - 1)) (.int .i64 t.n) (.int .i64 t.x) (.string t.s) (.slice a t.l.length c) (HI5.out.miss X 0 (by omega) (.int .i64 ((x : Int) - 1))).blk (Kp.set HK5.out (by omega) (by omega) 0 (.int .i64 ((x : Int) - 1))) (Nat.le_refl _) (HC5.out.set (by omega) 0 (.int .i64 ((x : Int) - 1))) hlA
  refine bodyPost_ret (v := .agg #[.int .i64 ((x : Int) - 1), .int .i64 t.n, .int .i64 t.x, .string t.s, .slice a t.l.length c]) (by simp [results, Tryz.results65, go_sem, e0, e1, e2, e3, e4]) rfl ⟨.mk ((x : Int) - 1) t.n t.x t.s t.l, a, c, rfl, wf_mk ⟨by omega, by omega⟩ htw.2.1 htw.2.2.1 (by omega), hts, (by rw [T.sz_eta]; show t.s.size + T.szL t.l ≤ _; omega), (by rw [T.depth_eta]; exact HTD.out), ?_, hcf, hkf⟩
  exact ((HS.out w5 HR5.out 0 (.int .i64 ((x : Int) - 1))).agree TV.elem.loc (fun f h1 _ _ => hof f (by omega)) (by rw [hsf]; omega)).rn.less (by omega)
 ·go_wp2_with fail
  refine (spec_l1Raw A w4 HC4.out).mono ?_
  rintro e w5 ⟨n, hn, rfl, hc5, hk5⟩
  have HN := Lib.hid hn; clear hn
  have HC5 := Lib.hid hc5; have HI5 := Lib.hid (hk5.is HI4.out (by omega)); have HV5 := Lib.hid (hk5.is HV4.out (by omega)); have HK5 := Lib.hid (show Kp A w w5 from HK4.out.trans hk5); have HR5 := Lib.hid (HH.out w5 hk5); clear hc5 hk5
  have ff := fun i => HV5.out.frozen i; have lg := HV5.out.lt; obtain ⟨z0, z1, z2, z3, z4⟩ := HV5.out.cells5
  have fg := fun i => HI5.out.frozen i; have lh := HI5.out.lt; obtain ⟨y0, y1, y2, y3, y4⟩ := HI5.out.cells5
  go_wp2_with fail
  obtain ⟨e0, e1, e2, e3, e4, hcf, hkf, hof, hsf⟩ := fin5 (.int .i64 t.k) (.int .i64 n) (.int .i64 t.x) (.string t.s) (.slice a t.l.length c) (HI5.out.miss X 1 (by omega) (.int .i64 n)).blk (Kp.set HK5.out (by omega) (by omega) 1 (.int .i64 n)) (Nat.le_refl _) (HC5.out.set (by omega) 1 (.int .i64 n)) hlA
  refine bodyPost_ret (v := .agg #[.int .i64 t.k, .int .i64 n, .int .i64 t.x, .string t.s, .slice a t.l.length c]) (by simp [results, Tryz.results65, go_sem, e0, e1, e2, e3, e4]) rfl ⟨.mk t.k n t.x t.s t.l, a, c, rfl, wf_mk htw.1 HN.out htw.2.2.1 (by omega), hts, (by rw [T.sz_eta]; show t.s.size + T.szL t.l ≤ _; omega), (by rw [T.depth_eta]; exact HTD.out), ?_, hcf, hkf⟩
  exact ((HS.out w5 HR5.out 1 (.int .i64 n)).agree TV.elem.loc (fun f h1 _ _ => hof f (by omega)) (by rw [hsf]; omega)).rn.less (by omega)
 ·go_wp2_with fail
  refine (spec_l1IntL A [1, -17, -1] _ w4 HC4.out (by decide) (by decide) (by decide)).mono ?_
  rintro e w5 ⟨x, _, hx, rfl, hc5, hk5⟩
  have HN := Lib.hid hx; clear hx
  have HC5 := Lib.hid hc5; have HI5 := Lib.hid (hk5.is HI4.out (by omega)); have HV5 := Lib.hid (hk5.is HV4.out (by omega)); have HK5 := Lib.hid (show Kp A w w5 from HK4.out.trans hk5); have HR5 := Lib.hid (HH.out w5 hk5); clear hc5 hk5
  have ff := fun i => HV5.out.frozen i; have lg := HV5.out.lt; obtain ⟨z0, z1, z2, z3, z4⟩ := HV5.out.cells5
  have fg := fun i => HI5.out.frozen i; have lh := HI5.out.lt; obtain ⟨y0, y1, y2, y3, y4⟩ := HI5.out.cells5
  go_wp2_with fail
  obtain ⟨e0, e1, e2, e3, e4, hcf, hkf, hof, hsf⟩ := fin5 (.int .i64 t.k) (.int .i64 t.n) (.int .i64 x) (.string t.s) (.slice a t.l.length c) (HI5.out.miss X 2 (by omega) (.int .i64 x)).blk (Kp.set HK5.out (by omega) (by omega) 2 (.int .i64 x)) (Nat.le_refl _) (HC5.out.set (by omega) 2 (.int .i64 x)) hlA
  refine bodyPost_ret (v := .agg #[.int .i64 t.k, .int .i64 t.n, .int .i64 x, .string t.s, .slice a t.l.length c]) (by simp [results, Tryz.results65, go_sem, e0, e1, e2, e3, e4]) rfl ⟨.mk t.k t.n x t.s t.l, a, c, rfl, wf_mk htw.1 htw.2.1 HN.out (by omega), hts, (by rw [T.sz_eta]; show t.s.size + T.szL t.l ≤ _; omega), (by rw [T.depth_eta]; exact HTD.out), ?_, hcf, hkf⟩
  exact ((HS.out w5 HR5.out 2 (.int .i64 x)).agree TV.elem.loc (fun f h1 _ _ => hof f (by omega)) (by rw [hsf]; omega)).rn.less (by omega)
 ·go_wp2_with fail
  refine (spec_l1StrL A [⟨#[128]⟩, ⟨#[120]⟩, ⟨#[255]⟩] _ w4 HC4.out (by decide) (by decide)).mono ?_
  rintro e w5 ⟨s, hm, rfl, hc5, hk5⟩
  have hss : s.size ≤ 1 := by (simp only [List.mem_cons, List.not_mem_nil, or_false] at hm; rcases hm with rfl | rfl | rfl <;> decide)
  clear hm
  have HC5 := Lib.hid hc5; have HI5 := Lib.hid (hk5.is HI4.out (by omega)); have HV5 := Lib.hid (hk5.is HV4.out (by omega)); have HK5 := Lib.hid (show Kp A w w5 from HK4.out.trans hk5); have HR5 := Lib.hid (HH.out w5 hk5); clear hc5 hk5
  have ff := fun i => HV5.out.frozen i; have lg := HV5.out.lt; obtain ⟨z0, z1, z2, z3, z4⟩ := HV5.out.cells5
  have fg := fun i => HI5.out.frozen i; have lh := HI5.out.lt; obtain ⟨y0, y1, y2, y3, y4⟩ := HI5.out.cells5
  go_wp2_with fail
  obtain ⟨e0, e1, e2, e3, e4, hcf, hkf, hof, hsf⟩ := fin5 (.int .i64 t.k) (.int .i64 t.n) (.int .i64 t.x) (.string s) (.slice a t.l.length c) (HI5.out.miss X 3 (by omega) (.string s)).blk (Kp.set HK5.out (by omega) (by omega) 3 (.string s)) (Nat.le_refl _) (HC5.out.set (by omega) 3 (.string s)) hlA
  refine bodyPost_ret (v := .agg #[.int .i64 t.k, .int .i64 t.n, .int .i64 t.x, .string s, .slice a t.l.length c]) (by simp [results, Tryz.results65, go_sem, e0, e1, e2, e3, e4]) rfl ⟨.mk t.k t.n t.x s t.l, a, c, rfl, wf_mk htw.1 htw.2.1 htw.2.2.1 (by omega), (show s.size ≤ 12 by omega), (by rw [T.sz_eta]; show s.size + T.szL t.l ≤ _; omega), (by rw [T.depth_eta]; exact HTD.out), ?_, hcf, hkf⟩
  exact ((HS.out w5 HR5.out 3 (.string s)).agree TV.elem.loc (fun f h1 _ _ => hof f (by omega)) (by rw [hsf]; omega)).rn.less (by omega)
 ·have HCD := Lib.hid (HC4.out.below (Below.refl (A + 1) w4).drew (by omega))
  have HKD := Lib.hid (show Kp A w4 w4.drew from ⟨(Below.refl _ _).drew, fun _ _ _ => rfl⟩)
  have ff := fun i => HV4.out.frozen i; have lg := HV4.out.lt; obtain ⟨z0, z1, z2, z3, z4⟩ := HV4.out.cells5
  have hlen : t.l.length ≤ 1920 := by have := T.length_le_szL t.l; omega
  go_upto_region 12 with (fail)
  refine wp_region_held_drew (S := fun _ => True) (by kernel_rfl) trivial (fun hHeld => ?_)
  refine tkS 0 33 rfl ?_
  refine tkS 2 35 rfl ?_
  refine wpAnyH_ready (rs := [1, 3]) (by kernel_rfl) (by simp) ?_
  refine AllReadyH.cons (o := ⟨some 34, _, _, _, _, _⟩) rfl (fun K hK => ?_) ?_
  focus (go_simp; go_wp2_with fail; refine hK.out _ _ trivial (fun hHeld => ?_); clear hK K; try simp only [Act.put, tkL, tkZ, tkN])
  refine wpAnyH_ready (rs := [3]) (by kernel_rfl) (by simp) ?_
  refine AllReadyH.cons (o := ⟨some 36, _, _, _, _, _⟩) rfl (fun K hK => ?_) AllReadyH.nil
  focus (go_simp; (first | (go_at_call 115; refine (spec_l6Draw A 0 (by omega) _ HCD.out).mono ?_; rintro e w5 ⟨t5, a5, c5, rfl, htw5, hts5, htz5, htd5, happ5, hc5, hk5⟩; have HTD5 := Lib.hid htd5.2; clear htd5; have HK5 := Lib.hid (show Kp A w4 w5 from HKD.out.trans hk5); have hx5 := Kp.is HK5.out HV4.out (by omega); have hi5 := Kp.is HK5.out HI4.out (by omega); have ff5 := (fun i => hx5.frozen i); have lg5 := hx5.lt; obtain ⟨v0, v1, v2, v3, v4⟩ := hx5.cells5; obtain ⟨G, g1, g2, g3⟩ := Own.ow.2 happ5.own; simp only [World.size_drew] at g3) | (obtain ⟨a6, c6, w6, hrun, happ6, hb6, hout6, hsz6, hrow6⟩ := run_app3 (P := Tryz.prog) (w5.alloc (.cells (cV t5 a5 c5) 26)) (EX.elem X TV.elem) 24 24 (.agg zV) 64 Tryz.underlying24 info_Val rfl (w.heap.size + 1) X a c t.l (((HA4.out.ex (Nat.le_refl _)).kp (EX.elem X TV.elem) HK5.out (by omega) (by omega)).below (EX.elem X TV.elem) (below1 w5 _) (by omega)) (by simp; omega) (by omega) w5.heap.size 0 1 t5 G ⟨TV.box 26 g1 htw5 (fun f hf => (g3 f hf).2.2.lt), fun hm => by have := (g3 X hm).1; omega⟩ g2 (fun f hf => ⟨by have := (g3 f hf).1; omega, by have := (g3 f hf).2.1; simp; omega, (g3 f hf).2.2.alloc _⟩) (by unfold maxLen; omega) (by omega); refine step_append_run _ rfl _ _ _ _ rfl _ _ rfl rfl _ _ hrun ?_; have hx6 := (hx5.alloc (.cells (cV t5 a5 c5) 26)).agree (hout6 X (by simp; omega) (fun k hk e => by have := (HA4.out.row k hk).2; omega)); have ff6 := (fun i => hx6.frozen i); have lg6 := hx6.lt; obtain ⟨y0, y1, y2, y3, y4⟩ := hx6.cells5)); go_wp2_with fail; refine hK.out _ _ trivial (fun hHeld => ?_); clear hK K; try simp only [Act.put, tkL, tkZ, tkN])
  refine wpAnyH_ready (rs := [4]) (by kernel_rfl) (by simp) ?_
  refine AllReadyH.cons (o := ⟨some 37, _, _, _, _, _⟩) rfl (fun K hK => ?_) AllReadyH.nil
  focus (go_simp; go_wp2_with fail; refine hK.out _ _ trivial (fun hHeld => ?_); clear hK K; try simp only [Act.put, tkL, tkZ, tkN])
  refine wpAnyH_ready (rs := [5]) (by kernel_rfl) (by simp) ?_
  refine AllReadyH.cons (o := ⟨some 38, _, _, _, _, _⟩) rfl (fun K hK => ?_) AllReadyH.nil
  focus ((first | (go_at_call 115; refine (spec_l6Draw A 0 (by omega) _ HCD.out).mono ?_; rintro e w5 ⟨t5, a5, c5, rfl, htw5, hts5, htz5, htd5, happ5, hc5, hk5⟩; have HTD5 := Lib.hid htd5.2; clear htd5; have HK5 := Lib.hid (show Kp A w4 w5 from HKD.out.trans hk5); have hx5 := Kp.is HK5.out HV4.out (by omega); have hi5 := Kp.is HK5.out HI4.out (by omega); have ff5 := (fun i => hx5.frozen i); have lg5 := hx5.lt; obtain ⟨v0, v1, v2, v3, v4⟩ := hx5.cells5; obtain ⟨G, g1, g2, g3⟩ := Own.ow.2 happ5.own; simp only [World.size_drew] at g3) | (obtain ⟨a6, c6, w6, hrun, happ6, hb6, hout6, hsz6, hrow6⟩ := run_app3 (P := Tryz.prog) (w5.alloc (.cells (cV t5 a5 c5) 26)) (EX.elem X TV.elem) 24 24 (.agg zV) 64 Tryz.underlying24 info_Val rfl (w.heap.size + 1) X a c t.l (((HA4.out.ex (Nat.le_refl _)).kp (EX.elem X TV.elem) HK5.out (by omega) (by omega)).below (EX.elem X TV.elem) (below1 w5 _) (by omega)) (by simp; omega) (by omega) w5.heap.size 0 1 t5 G ⟨TV.box 26 g1 htw5 (fun f hf => (g3 f hf).2.2.lt), fun hm => by have := (g3 X hm).1; omega⟩ g2 (fun f hf => ⟨by have := (g3 f hf).1; omega, by have := (g3 f hf).2.1; simp; omega, (g3 f hf).2.2.alloc _⟩) (by unfold maxLen; omega) (by omega); refine step_append_run _ rfl _ _ _ _ rfl _ _ rfl rfl _ _ hrun ?_; have hx6 := (hx5.alloc (.cells (cV t5 a5 c5) 26)).agree (hout6 X (by simp; omega) (fun k hk e => by have := (HA4.out.row k hk).2; omega)); have ff6 := (fun i => hx6.frozen i); have lg6 := hx6.lt; obtain ⟨y0, y1, y2, y3, y4⟩ := hx6.cells5)); refine hK.out _ _ trivial (fun hHeld => ?_); clear hK K; try simp only [Act.put, tkL, tkZ, tkN])
  refine tkS 6 39 rfl ?_
  refine wpAnyH_ready (rs := [7]) (by kernel_rfl) (by simp) ?_
  refine AllReadyH.cons (o := ⟨none, _, _, _, _, _⟩) rfl (fun K hK => ?_) AllReadyH.nil
  focus (go_simp; go_wp2_with fail; refine hK.out _ _ trivial (fun hHeld => ?_); clear hK K; try simp only [Act.put])
  refine tkE ?_
  rotate_left 1
  refine AllReadyH.cons (o := ⟨some 36, _, _, _, _, _⟩) rfl (fun K hK => ?_) AllReadyH.nil
  focus (go_simp; (first | (go_at_call 115; refine (spec_l6Draw A 0 (by omega) _ HCD.out).mono ?_; rintro e w5 ⟨t5, a5, c5, rfl, htw5, hts5, htz5, htd5, happ5, hc5, hk5⟩; have HTD5 := Lib.hid htd5.2; clear htd5; have HK5 := Lib.hid (show Kp A w4 w5 from HKD.out.trans hk5); have hx5 := Kp.is HK5.out HV4.out (by omega); have hi5 := Kp.is HK5.out HI4.out (by omega); have ff5 := (fun i => hx5.frozen i); have lg5 := hx5.lt; obtain ⟨v0, v1, v2, v3, v4⟩ := hx5.cells5; obtain ⟨G, g1, g2, g3⟩ := Own.ow.2 happ5.own; simp only [World.size_drew] at g3) | (obtain ⟨a6, c6, w6, hrun, happ6, hb6, hout6, hsz6, hrow6⟩ := run_app3 (P := Tryz.prog) (w5.alloc (.cells (cV t5 a5 c5) 26)) (EX.elem X TV.elem) 24 24 (.agg zV) 64 Tryz.underlying24 info_Val rfl (w.heap.size + 1) X a c t.l (((HA4.out.ex (Nat.le_refl _)).kp (EX.elem X TV.elem) HK5.out (by omega) (by omega)).below (EX.elem X TV.elem) (below1 w5 _) (by omega)) (by simp; omega) (by omega) w5.heap.size 0 1 t5 G ⟨TV.box 26 g1 htw5 (fun f hf => (g3 f hf).2.2.lt), fun hm => by have := (g3 X hm).1; omega⟩ g2 (fun f hf => ⟨by have := (g3 f hf).1; omega, by have := (g3 f hf).2.1; simp; omega, (g3 f hf).2.2.alloc _⟩) (by unfold maxLen; omega) (by omega); refine step_append_run _ rfl _ _ _ _ rfl _ _ rfl rfl _ _ hrun ?_; have hx6 := (hx5.alloc (.cells (cV t5 a5 c5) 26)).agree (hout6 X (by simp; omega) (fun k hk e => by have := (HA4.out.row k hk).2; omega)); have ff6 := (fun i => hx6.frozen i); have lg6 := hx6.lt; obtain ⟨y0, y1, y2, y3, y4⟩ := hx6.cells5)); go_wp2_with fail; refine hK.out _ _ trivial (fun hHeld => ?_); clear hK K; try simp only [Act.put, tkL, tkZ, tkN])
  refine wpAnyH_ready (rs := [1, 4]) (by kernel_rfl) (by simp) ?_
  refine AllReadyH.cons (o := ⟨some 34, _, _, _, _, _⟩) rfl (fun K hK => ?_) ?_
  focus (go_simp; go_wp2_with fail; refine hK.out _ _ trivial (fun hHeld => ?_); clear hK K; try simp only [Act.put, tkL, tkZ, tkN])
  refine wpAnyH_ready (rs := [4]) (by kernel_rfl) (by simp) ?_
  refine AllReadyH.cons (o := ⟨some 37, _, _, _, _, _⟩) rfl (fun K hK => ?_) AllReadyH.nil
  focus (go_simp; go_wp2_with fail; refine hK.out _ _ trivial (fun hHeld => ?_); clear hK K; try simp only [Act.put, tkL, tkZ, tkN])
  refine wpAnyH_ready (rs := [5]) (by kernel_rfl) (by simp) ?_
  refine AllReadyH.cons (o := ⟨some 38, _, _, _, _, _⟩) rfl (fun K hK => ?_) AllReadyH.nil
  focus ((first | (go_at_call 115; refine (spec_l6Draw A 0 (by omega) _ HCD.out).mono ?_; rintro e w5 ⟨t5, a5, c5, rfl, htw5, hts5, htz5, htd5, happ5, hc5, hk5⟩; have HTD5 := Lib.hid htd5.2; clear htd5; have HK5 := Lib.hid (show Kp A w4 w5 from HKD.out.trans hk5); have hx5 := Kp.is HK5.out HV4.out (by omega); have hi5 := Kp.is HK5.out HI4.out (by omega); have ff5 := (fun i => hx5.frozen i); have lg5 := hx5.lt; obtain ⟨v0, v1, v2, v3, v4⟩ := hx5.cells5; obtain ⟨G, g1, g2, g3⟩ := Own.ow.2 happ5.own; simp only [World.size_drew] at g3) | (obtain ⟨a6, c6, w6, hrun, happ6, hb6, hout6, hsz6, hrow6⟩ := run_app3 (P := Tryz.prog) (w5.alloc (.cells (cV t5 a5 c5) 26)) (EX.elem X TV.elem) 24 24 (.agg zV) 64 Tryz.underlying24 info_Val rfl (w.heap.size + 1) X a c t.l (((HA4.out.ex (Nat.le_refl _)).kp (EX.elem X TV.elem) HK5.out (by omega) (by omega)).below (EX.elem X TV.elem) (below1 w5 _) (by omega)) (by simp; omega) (by omega) w5.heap.size 0 1 t5 G ⟨TV.box 26 g1 htw5 (fun f hf => (g3 f hf).2.2.lt), fun hm => by have := (g3 X hm).1; omega⟩ g2 (fun f hf => ⟨by have := (g3 f hf).1; omega, by have := (g3 f hf).2.1; simp; omega, (g3 f hf).2.2.alloc _⟩) (by unfold maxLen; omega) (by omega); refine step_append_run _ rfl _ _ _ _ rfl _ _ rfl rfl _ _ hrun ?_; have hx6 := (hx5.alloc (.cells (cV t5 a5 c5) 26)).agree (hout6 X (by simp; omega) (fun k hk e => by have := (HA4.out.row k hk).2; omega)); have ff6 := (fun i => hx6.frozen i); have lg6 := hx6.lt; obtain ⟨y0, y1, y2, y3, y4⟩ := hx6.cells5)); refine hK.out _ _ trivial (fun hHeld => ?_); clear hK K; try simp only [Act.put, tkL, tkZ, tkN])
  refine tkS 6 39 rfl ?_
  refine wpAnyH_ready (rs := [7]) (by kernel_rfl) (by simp) ?_
  refine AllReadyH.cons (o := ⟨none, _, _, _, _, _⟩) rfl (fun K hK => ?_) AllReadyH.nil
  focus (go_simp; go_wp2_with fail; refine hK.out _ _ trivial (fun hHeld => ?_); clear hK K; try simp only [Act.put])
  refine tkE ?_
  rotate_left 1
  refine AllReadyH.cons (o := ⟨some 37, _, _, _, _, _⟩) rfl (fun K hK => ?_) AllReadyH.nil
  focus (go_simp; go_wp2_with fail; refine hK.out _ _ trivial (fun hHeld => ?_); clear hK K; try simp only [Act.put, tkL, tkZ, tkN])
  refine wpAnyH_ready (rs := [1]) (by kernel_rfl) (by simp) ?_
  refine AllReadyH.cons (o := ⟨some 34, _, _, _, _, _⟩) rfl (fun K hK => ?_) AllReadyH.nil
  focus (go_simp; go_wp2_with fail; refine hK.out _ _ trivial (fun hHeld => ?_); clear hK K; try simp only [Act.put, tkL, tkZ, tkN])
  refine wpAnyH_ready (rs := [5]) (by kernel_rfl) (by simp) ?_
  refine AllReadyH.cons (o := ⟨some 38, _, _, _, _, _⟩) rfl (fun K hK => ?_) AllReadyH.nil
  focus ((first | (go_at_call 115; refine (spec_l6Draw A 0 (by omega) _ HCD.out).mono ?_; rintro e w5 ⟨t5, a5, c5, rfl, htw5, hts5, htz5, htd5, happ5, hc5, hk5⟩; have HTD5 := Lib.hid htd5.2; clear htd5; have HK5 := Lib.hid (show Kp A w4 w5 from HKD.out.trans hk5); have hx5 := Kp.is HK5.out HV4.out (by omega); have hi5 := Kp.is HK5.out HI4.out (by omega); have ff5 := (fun i => hx5.frozen i); have lg5 := hx5.lt; obtain ⟨v0, v1, v2, v3, v4⟩ := hx5.cells5; obtain ⟨G, g1, g2, g3⟩ := Own.ow.2 happ5.own; simp only [World.size_drew] at g3) | (obtain ⟨a6, c6, w6, hrun, happ6, hb6, hout6, hsz6, hrow6⟩ := run_app3 (P := Tryz.prog) (w5.alloc (.cells (cV t5 a5 c5) 26)) (EX.elem X TV.elem) 24 24 (.agg zV) 64 Tryz.underlying24 info_Val rfl (w.heap.size + 1) X a c t.l (((HA4.out.ex (Nat.le_refl _)).kp (EX.elem X TV.elem) HK5.out (by omega) (by omega)).below (EX.elem X TV.elem) (below1 w5 _) (by omega)) (by simp; omega) (by omega) w5.heap.size 0 1 t5 G ⟨TV.box 26 g1 htw5 (fun f hf => (g3 f hf).2.2.lt), fun hm => by have := (g3 X hm).1; omega⟩ g2 (fun f hf => ⟨by have := (g3 f hf).1; omega, by have := (g3 f hf).2.1; simp; omega, (g3 f hf).2.2.alloc _⟩) (by unfold maxLen; omega) (by omega); refine step_append_run _ rfl _ _ _ _ rfl _ _ rfl rfl _ _ hrun ?_; have hx6 := (hx5.alloc (.cells (cV t5 a5 c5) 26)).agree (hout6 X (by simp; omega) (fun k hk e => by have := (HA4.out.row k hk).2; omega)); have ff6 := (fun i => hx6.frozen i); have lg6 := hx6.lt; obtain ⟨y0, y1, y2, y3, y4⟩ := hx6.cells5)); refine hK.out _ _ trivial (fun hHeld => ?_); clear hK K; try simp only [Act.put, tkL, tkZ, tkN])
  refine tkS 6 39 rfl ?_
  refine wpAnyH_ready (rs := [7]) (by kernel_rfl) (by simp) ?_
  refine AllReadyH.cons (o := ⟨none, _, _, _, _, _⟩) rfl (fun K hK => ?_) AllReadyH.nil
  focus (go_simp; go_wp2_with fail; refine hK.out _ _ trivial (fun hHeld => ?_); clear hK K; try simp only [Act.put])
  refine tkE ?_
  all_goals
   have hi6 := (hi5.alloc (.cells (cV t5 a5 c5) 26)).below hb6 (by omega)
   have fg := fun i => hi6.frozen i; have lh := hi6.lt; obtain ⟨x0, x1, x2, x3, x4⟩ := hi6.cells5
   have hc6 := ((hc5.below (below1 w5 (.cells (cV t5 a5 c5) 26)) hc5.lt)).below hb6 (by omega)
   have hkp6 : Kp A w w6 := Kp.grow (HK4.out.trans (HK5.out.trans (Kp.alloc (Nat.le_of_lt hc5.lt) _))) (hb6.mono (by omega)) (by omega)
   have hr6 := happ6.rq (fun k hk => by rcases hrow6 k hk with h | h; (have := (HA4.out.row k h).2; omega); (rw [h]; simp only [size_alloc]; omega)) (Nat.le_refl _)
   have hle : (t.l ++ [t5]).length = t.l.length + 1 := by rw [List.length_append]; rfl
   go_wp2_with fail
   obtain ⟨e0, e1, e2, e3, e4, hcf, hkf, hof, hsf⟩ := fin5 (.int .i64 t.k) (.int .i64 t.n) (.int .i64 t.x) (.string t.s) (.slice a6 (t.l.length + 1) c6) (hi6.miss X 4 (by omega) (.slice a6 (t.l.length + 1) c6)).blk (Kp.set hkp6 (by omega) (by omega) 4 (.slice a6 (t.l.length + 1) c6)) (Nat.le_refl _) (hc6.set (by omega) 4 (.slice a6 (t.l.length + 1) c6)) hlA
   refine bodyPost_ret (v := .agg #[.int .i64 t.k, .int .i64 t.n, .int .i64 t.x, .string t.s, .slice a6 (t.l.length + 1) c6]) (by simp [results, Tryz.results65, go_sem, e0, e1, e2, e3, e4]) rfl ⟨.mk t.k t.n t.x t.s (t.l ++ [t5]), a6, c6, by simp [T.l, T.k, T.n, T.x, T.s], htw, hts, (by rw [T.sz_eta]; show t.s.size + T.szL (t.l ++ [t5]) ≤ _; rw [T.szL_append]; show _ + (_ + (1 + T.sz t5 + 0)) ≤ _; omega), (by rw [T.depth_eta]; show T.depthL (t.l ++ [t5]) + 1 ≤ 4; rw [T.depthL_append]; have h1 := HTD.out; have h2 := HTD5.out; simp only [T.depthL]; omega), ?_, hcf, hkf⟩
   exact ((hr6.agree (w' := w6.setCell ⟨X, 4, none⟩ (.slice a6 (t.l.length + 1) c6)) TV.elem.loc (fun f h1 h2 h3 => heap_miss _ _ _ _ h2 _) (by rw [size_set]; omega)).agree TV.elem.loc (fun f h1 _ _ => hof f (by omega)) (by rw [hsf]; omega)).rn.less (by omega)
theorem emod_256 (n P : Int) (hP : 0 < P) : n % (P * 256) = n % P + P * (n / P % 256) := by
 have h1 : P * (n / P) + n % P = n := Int.mul_ediv_add_emod n P
 have h2 : 256 * (n / P / 256) + n / P % 256 = n / P := Int.mul_ediv_add_emod (n / P) 256
 have h3 : n = (n % P + P * (n / P % 256)) + P * 256 * (n / P / 256) := by
  conv => lhs; rw [← h1, ← h2]
  rw [Int.mul_add, ← Int.mul_assoc]; omega
 have h4 : 0 ≤ n % P := Int.emod_nonneg _ (by omega)
 have h5 : n % P < P := Int.emod_lt_of_pos _ hP
 have h6 : P * (n / P % 256) ≤ P * 255 := Int.mul_le_mul_of_nonneg_left (by omega) (by omega)
 have h7 : 0 ≤ P * (n / P % 256) := Int.mul_nonneg (by omega) (by omega)
 conv => lhs; rw [h3]
 rw [Int.add_mul_emod_self_left, Int.emod_eq_of_lt (by omega) (by omega)]
def beF (a : Int) : List Int → Int
 | [] => a
 | x :: r => beF (a * 256 + x) r
theorem beF_append (a : Int) (l m : List Int) : beF a (l ++ m) = beF (beF a l) m := by
 induction l generalizing a with
 | nil => rfl
 | cons x r ih => rw [List.cons_append, beF, beF, ih]
theorem beF_big (n a : Int) : ∀ w : Nat, beF a (bigL n w) = a * 256 ^ w + n % 256 ^ w
 | 0 => by simp [bigL, beF]
 | w + 1 => by
  rw [bigL, beF, beF_big n _ w]
  have hP : (0 : Int) < 256 ^ w := Int.pow_pos (by decide)
  have e : (256 : Int) ^ (w + 1) = 256 ^ w * 256 := Int.pow_succ ..
  rw [e, emod_256 n _ hP, Int.add_mul, Int.mul_comm (n / 256 ^ w % 256)]
  have : a * (256 ^ w * 256) = a * 256 * 256 ^ w := by rw [Int.mul_assoc, Int.mul_comm 256]
  omega
theorem beF_nonneg : ∀ (l : List Int) (a : Int), 0 ≤ a → (∀ x ∈ l, U8 x) → 0 ≤ beF a l := by
 intro l
 induction l with
 | nil => intro a h _; exact h
 | cons x r ih => intro a h hu; exact ih _ (by have := (hu x (by simp)).1; omega) (fun y hy => hu y (by simp [hy]))
def beN (l : List Int) : Int := beF 0 l
def rdMany (f : List Int → Except Int (T × Nat)) : Nat → List Int → Except Int (List T × Nat)
 | 0, _ => .ok ([], 0)
 | k + 1, l =>
  match f l with
  | .error c => .error c
  | .ok (t, u) =>
   match rdMany f k (l.drop u) with
   | .error c => .error c
   | .ok (ts, v) => .ok (t :: ts, u + v)
theorem beN_big (n : Int) (w : Nat) : beN (bigL n w) = n % 256 ^ w := by unfold beN; rw [beF_big]; omega
theorem beN_id (n : Int) (w : Nat) (h0 : 0 ≤ n) (h1 : n < 256 ^ w) : beN (bigL n w) = n := by rw [beN_big, Int.emod_eq_of_lt h0 h1]
theorem take_big (n : Int) (w : Nat) (r : List Int) : (bigL n w ++ r).take w = bigL n w := by
 rw [List.take_append_of_le_length (by rw [bigL_len]; exact Nat.le_refl _), List.take_of_length_le (by rw [bigL_len]; exact Nat.le_refl _)]
def pairedB (t : T) : Bool := decide (t.k = 10) && decide (t.l.length % 2 = 0)
theorem spec_l7Map (t : T) (a : Option Addr) (cap : Nat) (w : World) (hl : t.l.length ≤ 1073741824) :
  Calls Tryz.prog 175 #[.agg (cV t a cap)] w fun e w' => e = .returned (.bool (pairedB t)) ∧ Below w.heap.size w w' := by
 obtain ⟨k, n, x, s, l⟩ := t
 simp only [cV, T.k, T.n, T.x, T.s, T.l, pairedB] at hl ⊢
 by_cases hk : k = 10
 ·subst hk
  by_cases h2 : l.length % 2 = 0
  ·have h3 : ((l.length : Int) % 2 == 0) = true := by simp; omega
   have HB := Lib.hid h2; clear h2
   go_enter Tryz.func175, Tryz.ntmps175
   go_wp2
   go_ret
   exact ⟨ret_b (by simp [HB.out]), by go_grown⟩
  ·have h3 : ((l.length : Int) % 2 == 0) = false := by simp; omega
   have HB := Lib.hid h2; clear h2
   go_enter Tryz.func175, Tryz.ntmps175
   go_wp2
   go_ret
   exact ⟨ret_b (by simp [HB.out]), by go_grown⟩
 ·have hq : (k == 10) = false := by simp [hk]
  have HK := Lib.hid hk; clear hk
  go_enter Tryz.func175, Tryz.ntmps175
  go_wp2
  go_ret
  exact ⟨ret_b (by simp [HK.out]), by go_grown⟩
end Go.Proofs.YtggdenkmohnijaaGreatDoor
