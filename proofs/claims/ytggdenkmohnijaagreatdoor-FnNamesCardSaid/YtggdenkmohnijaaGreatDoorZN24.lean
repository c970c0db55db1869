/- Texts of this proof, merged: Drw9. No condition beyond what each theorem states. -/
import Derived.Test.YtggdenkmohnijaaGreatDoorZN23
set_option linter.unusedSimpArgs false
set_option linter.unnecessarySimpa false
namespace Go.Proofs.YtggdenkmohnijaaGreatDoor
open Go.ChangeShapes Go.WideShapes Go.ChangeAt Go.RowKit Go.Joins
set_option linter.unusedVariables false
set_option maxRecDepth 100000
section
variable {α : Type} {E : World → Nat → Nat → α → List Nat → Prop} {n : Nat} {e : TypeId} {nd : Prop}
def EX (X : Nat) (E : World → Nat → Nat → α → List Nat → Prop) (w : World) (b o : Nat) (x : α) (F : List Nat) : Prop := E w b o x F ∧ X ∉ F
theorem EX.elem (X : Nat) (h : Elem E n) : Elem (EX X E) n :=
  ⟨h.pos, fun x {_ _ _ _ _ _ _} hx hc hF => ⟨h.mov x hx.1 hc hF, hx.2⟩, fun x {_ _ _ _} hx => h.cel x hx.1⟩
theorem Row.ex {X : Nat} {w : World} {b : Nat} : ∀ {l : List α} {o : Nat} {F : List Nat}, Row E n w b o l F → X ∉ F → Row (EX X E) n w b o l F := by
  intro l
  induction l with
  | nil => intro o F h _; exact h
  | cons x r ih =>
    intro o F h hX
    obtain ⟨F1, F2, rfl, h1, h2⟩ := h
    simp only [List.mem_append, not_or] at hX
    exact ⟨F1, F2, rfl, ⟨h1, hX.1⟩, ih h2 hX.2⟩
theorem Row.unex {X : Nat} {w : World} {b : Nat} : ∀ {l : List α} {o : Nat} {F : List Nat}, Row (EX X E) n w b o l F → Row E n w b o l F ∧ X ∉ F := by
  intro l
  induction l with
  | nil => intro o F h; obtain rfl : F = [] := h; exact ⟨rfl, by simp⟩
  | cons x r ih =>
    intro o F h
    obtain ⟨F1, F2, rfl, h1, h2⟩ := h
    obtain ⟨h3, h4⟩ := ih h2
    exact ⟨⟨F1, F2, rfl, h1.1, h3⟩, by simp [h1.2, h4]⟩
theorem App.ex {X : Nat} {w : World} {lo hi cap : Nat} {a : Option Addr} {l : List α} (h : App E n e nd w lo hi a cap l) (hX : hi ≤ X) : App (EX X E) n e nd w lo hi a cap l := by
  rcases h with h | ⟨g, cur, F, ha, k1, k2, h3, h4, h5, h6, h7, h8, h9, h10⟩
  · exact Or.inl h
  · exact Or.inr ⟨g, cur, F, ha, k1, k2, h3, h4, h5, h6, h7.ex (fun hm => by have := (h10 X hm).2.1; omega), h8, h9, h10⟩
def Rq (E : World → Nat → Nat → α → List Nat → Prop) (n : Nat) (w : World) (lo X : Nat) (a : Option Addr) (cap : Nat) (l : List α) : Prop := ∃ F, Sl E n w a cap l F ∧ ∀ f ∈ F, lo ≤ f ∧ f ≠ X ∧ f < w.heap.size
theorem App.rq {X : Nat} {w : World} {lo hi cap : Nat} {a : Option Addr} {l : List α} (h : App (EX X E) n e nd w lo hi a cap l) (hk : ∀ k, (Value.slice a l.length cap).ownBlock = Option.some k → k ≠ X) (hh : hi ≤ w.heap.size) : Rq E n w lo X a cap l := by
  rcases h with ⟨rfl, rfl, rfl⟩ | ⟨g, cur, F, rfl, k1, k2, h3, h4, h5, h6, h7, h8, h9, h10⟩
  · exact ⟨[], Sl.nil _ _ _ (by simp [maxLen]), by simp⟩
  · by_cases hl : l = []
    · subst hl; exact ⟨[], Sl.nil _ _ _ h5, by simp⟩
    · have hgX : g ≠ X := hk g rfl
      obtain ⟨q1, q2⟩ := h7.unex
      refine ⟨g :: F, ⟨h4, h5, fun h => absurd h hl, fun _ => ⟨g, 0, F, rfl, rfl, q1⟩⟩, ?_⟩
      intro f hf
      rcases List.mem_cons.1 hf with rfl | hf
      · exact ⟨k1, hgX, by omega⟩
      · exact ⟨(h10 f hf).1, fun e => q2 (e ▸ hf), by have := (h10 f hf).2.1; omega⟩
theorem Rq.agree (hE : Loc E n) {w w' : World} {lo X cap : Nat} {a : Option Addr} {l : List α} (h : Rq E n w lo X a cap l) (hw : ∀ f, lo ≤ f → f ≠ X → f < w.heap.size → w'.heap[f]? = w.heap[f]?) (hs : w.heap.size ≤ w'.heap.size) : Rq E n w' lo X a cap l := by
  obtain ⟨F, h1, h2⟩ := h
  exact ⟨F, h1.agree hE (fun f hf => hw f (h2 f hf).1 (h2 f hf).2.1 (h2 f hf).2.2), fun f hf => ⟨(h2 f hf).1, (h2 f hf).2.1, by have := (h2 f hf).2.2; omega⟩⟩
theorem run_app3 {P : Program} (w : World) (hE : Elem E n) (t ty : TypeId) (z : Value) (bytes : Nat) (ht : P.underlying t = some (.slice e)) (hinfo : (P.info? e).map (fun i => (i.zero, i.size, i.bytes)) = some (some z, n, bytes)) (hzs : z.cells.size = n)
    (lo hi : Nat) (a : Option Addr) (cap : Nat) (l : List α) (happ : App E n e nd w lo hi a cap l) (hhi : hi ≤ w.heap.size) (hlo : lo ≤ hi)
    (b off c2 : Nat) (y : α) (G : List Nat) (hy : E w b off y G) (hG : G.Nodup) (hG2 : ∀ f ∈ G, hi ≤ f ∧ f < w.heap.size ∧ Unf w f) (h63 : l.length + 1 ≤ maxLen) (hbytes : (l.length + 1) * bytes ≤ 140737488355328) :
    ∃ a' cap' w', (Builtin.append_ #[t, t] ty #[.slice a l.length cap, .slice (some ⟨b, off, none⟩) 1 c2]).run P w = .ok (.slice a' (l ++ [y]).length cap') w' ∧ App E n e nd w' lo w'.heap.size a' cap' (l ++ [y]) ∧ Below lo w w' ∧
      (∀ f, f < w.heap.size → (∀ k, (Value.slice a l.length cap).ownBlock = some k → f ≠ k) → w'.heap[f]? = w.heap[f]?) ∧ w.heap.size ≤ w'.heap.size ∧ (∀ k, (Value.slice a' (l ++ [y]).length cap').ownBlock = some k → (Value.slice a l.length cap).ownBlock = some k ∨ k = w.heap.size) := by
  obtain ⟨i, hi', hz0, hz1, hz2⟩ := info_parts hinfo
  have hrow : Row E n w b off [y] G := ⟨G, [], by simp, hy, rfl⟩
  obtain ⟨xs, q1, q2, q3⟩ := happ.owns hE
  obtain ⟨news, n1, n2, n3⟩ := cells_list (hrow.cel hE [y])
  obtain ⟨g', cap', w', hr, hown, hgr, hat, hlt⟩ := run_append_lies (P := P) w t ty lo e i z n bytes ht hi' hz0 hz1 hz2 hzs hE.pos (.slice a l.length cap) l.length xs q1 ⟨b, off, none⟩ 1 c2 news n1 (fun j u hj => by
    have hj2 : j < 1 * n := by
      rcases Nat.lt_or_ge j (1 * n) with h | h
      · exact h
      · rw [List.getElem?_eq_none (by simp at n1; omega)] at hj; cases hj
    rw [← hj, ← n2 j hj2, Addr.add_lit]) n3 (by omega) h63 hbytes (by omega) w.heap.size rfl
  obtain ⟨r1, r2, r3⟩ := App.grown hE happ hhi hrow (fun _ => hG) (fun f hf => ⟨Nat.le_trans hlo (hG2 f hf).1, (hG2 f hf).2.1, (hG2 f hf).2.2, fun k hk => by have := (happ.row k hk).2; have := (hG2 f hf).1; omega⟩) (fun _ f hf => (hG2 f hf).1) n1 n2 q3 q2 hown hgr hat hlt
  rw [List.length_append]
  exact ⟨_, cap', w', hr, r1, r2 (by omega), r3, hgr.size, fun k hk => by
    have hk' : k = g' := by
      simp only [Value.ownBlock] at hk
      first | exact (Option.some.inj hk).symm | (split at hk <;> simp_all)
    subst hk'; exact hat⟩
end
set_option maxHeartbeats 4000000 in
theorem spec_l6Val (A : Nat) (w : World) (hc : Cur w A) : Calls Tryz.prog 62 #[.pointer (some ⟨A, 0, none⟩)] w fun e w' => DrewT A 1920 4 w e w' := by
  have hlA := hc.lt
  have HC0 := Lib.hid (hc.below (below1 w (.cells zV 26)) hlA)
  have HK0 := Lib.hid (Kp.alloc (w := w) (Nat.le_of_lt hlA) (.cells zV 26))
  have HI0 := Lib.hid (Is.new w zV 26)
  clear hc
  go_enter Tryz.func62, Tryz.ntmps62
  go_wp2_with fail
  refine (spec_l1Below A 4 _ HC0.out ⟨by decide, by decide⟩).mono ?_
  rintro e w2 ⟨k, rfl, hk, _, hc2, hk2⟩
  have HC2 := Lib.hid hc2; have HI2 := Lib.hid (hk2.is HI0.out (by omega)); have HK2 := Lib.hid (HK0.out.trans hk2); clear hc2 hk2 HI0 HK0 HC0
  have hl2 := HI2.out.lt
  go_wp2_with fail
  refine (spec_l6Draw A k (by omega) w2 HC2.out).mono ?_
  rintro e w3 ⟨t, a, c, rfl, htw, hts, htz, htd, happ, hc3, hk3⟩
  have HTD := Lib.hid htd; clear htd
  have HC3 := Lib.hid hc3; have HI3 := Lib.hid (hk3.is HI2.out (by omega)); have HK3 := Lib.hid (HK2.out.trans hk3); have hs3 := hk3.size; have HA3 := Lib.hid happ; clear hc3 hk3 happ
  have hp := pow4_le k (by omega)
  have ff := fun i => HI3.out.frozen i; have lg := HI3.out.lt; obtain ⟨z0, z1, z2, z3, z4⟩ := HI3.out.cells5
  go_wp2_with fail
  obtain ⟨e0, e1, e2, e3, e4, hcf, hkf, hof, hsf⟩ := fin5 (.int .i64 t.k) (.int .i64 t.n) (.int .i64 t.x) (.string t.s) (.slice a t.l.length c) HI3.out.blk HK3.out (Nat.le_refl _) HC3.out hlA
  refine bodyPost_ret (v := .agg (cV t a c)) (by simp [results, Tryz.results62, go_sem, e0, e1, e2, e3, e4]) rfl ⟨t, a, c, rfl, htw, hts, by omega, HTD.out.more (by omega), ?_, hcf, hkf⟩
  rw [hsf]
  exact (HA3.out.agree TV.elem (fun f h1 _ => hof f (by omega))).more (by omega) (Nat.le_refl _)
def Rn {α : Type} (E : World → Nat → Nat → α → List Nat → Prop) (n : Nat) (w : World) (lo : Nat) (a : Option Addr) (cap : Nat) (l : List α) : Prop := ∃ F, Sl E n w a cap l F ∧ ∀ f ∈ F, lo ≤ f ∧ f < w.heap.size
section
variable {α : Type} {E : World → Nat → Nat → α → List Nat → Prop} {n : Nat} {e : TypeId} {nd : Prop} {w w' : World} {lo cap : Nat} {a : Option Addr} {l : List α}
theorem Rn.agree (hE : Loc E n) (h : Rn E n w lo a cap l) (hw : ∀ f, lo ≤ f → f < w.heap.size → w'.heap[f]? = w.heap[f]?) (hs : w.heap.size ≤ w'.heap.size) : Rn E n w' lo a cap l := by
  obtain ⟨F, h1, h2⟩ := h
  exact ⟨F, h1.agree hE (fun f hf => hw f (h2 f hf).1 (h2 f hf).2), fun f hf => ⟨(h2 f hf).1, by have := (h2 f hf).2; omega⟩⟩
theorem Rn.kp (hE : Loc E n) {A : Nat} (h : Rn E n w lo a cap l) (hk : Kp A w w') (hA : A < lo) : Rn E n w' lo a cap l := h.agree hE (fun f h1 h2 => hk.heap f (by omega) h2) hk.size
theorem Rn.below (hE : Loc E n) {m : Nat} (h : Rn E n w lo a cap l) (hb : Below m w w') (hm : w.heap.size ≤ m) : Rn E n w' lo a cap l := h.agree hE (fun f h1 h2 => hb.block f (by omega)) hb.size
theorem Rn.rd (h : Rn E n w lo a cap l) : Rd E n w w.heap.size a cap l := by
  obtain ⟨F, h1, h2⟩ := h
  exact ⟨F, h1, fun f hf => (h2 f hf).2⟩
theorem Rn.less {lo' : Nat} (h : Rn E n w lo a cap l) (hl : lo' ≤ lo) : Rn E n w lo' a cap l := by
  obtain ⟨F, h1, h2⟩ := h
  exact ⟨F, h1, fun f hf => ⟨by have := (h2 f hf).1; omega, (h2 f hf).2⟩⟩
theorem App.rn {hi : Nat} (h : App E n e True w lo hi a cap l) (hh : hi ≤ w.heap.size) : Rn E n w lo a cap l := by
  obtain ⟨F, h1, _, h2⟩ := h.own
  exact ⟨F, h1, fun f hf => ⟨(h2 f hf).1, by have := (h2 f hf).2.1; omega⟩⟩
theorem Rq.rn {X : Nat} (h : Rq E n w lo X a cap l) : Rn E n w lo a cap l := by
  obtain ⟨F, h1, h2⟩ := h
  exact ⟨F, h1, fun f hf => ⟨(h2 f hf).1, (h2 f hf).2.2⟩⟩
end
theorem T.depth_eta (t : T) : T.depth t = T.depthL t.l + 1 := by cases t; simp [T.depth, T.l]
theorem T.sz_eta (t : T) : T.sz t = t.s.size + T.szL t.l := by cases t; simp [T.sz, T.s, T.l]
end Go.Proofs.YtggdenkmohnijaaGreatDoor
