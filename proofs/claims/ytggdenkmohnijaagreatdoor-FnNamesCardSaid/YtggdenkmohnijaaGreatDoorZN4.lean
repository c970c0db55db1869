/- Texts of this proof, merged: MarkV, LawVal, Tree1, Same2. No condition beyond what each theorem states. -/
import Derived.Laws.BytesArg
import Derived.Test.YtggdenkmohnijaaGreatDoorZN3
set_option linter.unusedSimpArgs false
set_option linter.unnecessarySimpa false
namespace Go.Proofs.YtggdenkmohnijaaGreatDoor
open Go.ChangeShapes Go.WideShapes Go.ChangeAt Go.RowKit Go.Joins
set_option linter.unusedVariables false
set_option maxRecDepth 100000
theorem T.k_mk (a b c : Int) (s : ByteArray) (l : List T) : (T.mk a b c s l).k = a := rfl
theorem T.n_mk (a b c : Int) (s : ByteArray) (l : List T) : (T.mk a b c s l).n = b := rfl
theorem T.x_mk (a b c : Int) (s : ByteArray) (l : List T) : (T.mk a b c s l).x = c := rfl
theorem T.s_mk (a b c : Int) (s : ByteArray) (l : List T) : (T.mk a b c s l).s = s := rfl
theorem T.l_mk (a b c : Int) (s : ByteArray) (l : List T) : (T.mk a b c s l).l = l := rfl
theorem TR.row {w : World} {b : Nat} : ∀ {l : List T} {o : Nat} {F : List Nat}, TR w b o l F ↔ Row TV 5 w b o l F := by
  intro l
  induction l with
  | nil => intro o F; rw [TR]; exact Iff.rfl
  | cons t r ih =>
    intro o F
    rw [TR]
    constructor
    · rintro ⟨F1, F2, h, h1, h2⟩; exact ⟨F1, F2, h, h1, ih.1 h2⟩
    · rintro ⟨F1, F2, h, h1, h2⟩; exact ⟨F1, F2, h, h1, ih.2 h2⟩
theorem TL.sl {w : World} {a : Option Addr} {cap : Nat} {l : List T} {F : List Nat} : TL w a cap l F ↔ Sl TV 5 w a cap l F := by
  constructor
  · rintro ⟨h1, h2, h3, h4⟩
    refine ⟨h1, h2, h3, fun hne => ?_⟩
    obtain ⟨b, o, F', ha, hF, hr⟩ := h4 hne
    exact ⟨b, o, F', ha, hF, TR.row.1 hr⟩
  · rintro ⟨h1, h2, h3, h4⟩
    refine ⟨h1, h2, h3, fun hne => ?_⟩
    obtain ⟨b, o, F', ha, hF, hr⟩ := h4 hne
    exact ⟨b, o, F', ha, hF, TR.row.2 hr⟩
theorem TV.elem : Elem TV 5 := by
  refine ⟨by omega, ?_, ?_⟩
  · intro x w w' b o b' o' F h hc hF
    rw [← T.eta x, TV.iff] at h ⊢
    obtain ⟨h0, h1, h2, h3, i0, i1, i2, i3, a, cap, h4, hl⟩ := h
    refine ⟨(hc 0 (by omega)).trans h0, (hc 1 (by omega)).trans h1, (hc 2 (by omega)).trans h2, (hc 3 (by omega)).trans h3, i0, i1, i2, i3, a, cap, (hc 4 (by omega)).trans h4, hl.agree hF⟩
  · intro x w b o F h i hi
    rw [← T.eta x, TV.iff] at h
    obtain ⟨h0, h1, h2, h3, i0, i1, i2, i3, a, cap, h4, hl⟩ := h
    rcases (by omega : i = 0 ∨ i = 1 ∨ i = 2 ∨ i = 3 ∨ i = 4) with rfl | rfl | rfl | rfl | rfl
    · exact ⟨_, h0, rfl⟩
    · exact ⟨_, h1, rfl⟩
    · exact ⟨_, h2, rfl⟩
    · exact ⟨_, h3, rfl⟩
    · exact ⟨_, h4, rfl⟩
theorem R.rd {w : World} {B cap : Nat} {a : Option Addr} {l : List T} : R w B a cap l ↔ Rd TV 5 w B a cap l := by
  constructor
  · rintro ⟨F, h, k⟩; exact ⟨F, TL.sl.1 h, k⟩
  · rintro ⟨F, h, k⟩; exact ⟨F, TL.sl.2 h, k⟩
theorem Own.ow {w : World} {lo hi cap : Nat} {a : Option Addr} {l : List T} : Own w lo hi a cap l ↔ Ow TV 5 w lo hi a cap l := by
  constructor
  · rintro ⟨F, h, k⟩; exact ⟨F, TL.sl.1 h, k⟩
  · rintro ⟨F, h, k⟩; exact ⟨F, TL.sl.2 h, k⟩
theorem countL_le_szL (l : List T) : T.countL l ≤ T.szL l := by
  have := T.countL_le_szL (.mk 0 0 0 ⟨#[]⟩ l)
  simp only [T.count, T.sz] at this
  have h : (⟨#[]⟩ : ByteArray).size = 0 := rfl
  omega
theorem info_Val : (Tryz.prog.info? 26).map (fun i => (i.zero, i.size, i.bytes)) = some (some (.agg #[.int .i64 0, .int .i64 0, .int .i64 0, .string ⟨#[]⟩, .slice none 0 0]), 5, 64) := by kernel_rfl
mutual
def sameT : T → T → Bool
  | .mk k n x s l, .mk k' n' x' s' l' => decide (k = k') && decide (n = n') && decide (x = x') && decide (s.data = s'.data) && sameTs l l'
def sameTs : List T → List T → Bool
  | [], [] => true
  | a :: r, b :: q => sameT a b && sameTs r q
  | [], _ :: _ => false
  | _ :: _, [] => false
end
theorem sameT_iff : ∀ a b : T, sameT a b = true ↔ a = b := by
  intro a
  induction a using T.ind with
  | h k n x s l ih =>
    intro b
    obtain ⟨k', n', x', s', l'⟩ := b
    have key : ∀ (r q : List T), (∀ t ∈ r, t ∈ l) → (sameTs r q = true ↔ r = q) := by
      intro r
      induction r with
      | nil => intro q _; cases q <;> simp [sameTs]
      | cons t r ihr =>
        intro q hm
        cases q with
        | nil => simp [sameTs]
        | cons u q =>
          rw [sameTs, Bool.and_eq_true, ih t (hm t (by simp)) u, ihr q (fun v hv => hm v (by simp [hv]))]
          simp
    rw [sameT]
    simp only [Bool.and_eq_true, decide_eq_true_eq, key l l' (fun _ h => h), T.mk.injEq]
    constructor
    · rintro ⟨⟨⟨⟨h1, h2⟩, h3⟩, h4⟩, h5⟩
      refine ⟨h1, h2, h3, ?_, h5⟩
      cases s; cases s'; simp at h4; rw [h4]
    · rintro ⟨h1, h2, h3, h4, h5⟩; exact ⟨⟨⟨⟨h1, h2⟩, h3⟩, by rw [h4]⟩, h5⟩
theorem sameT_true {a b : T} (h : a = b) : sameT a b = true := (sameT_iff a b).2 h
theorem sameT_false {a b : T} (h : ¬ a = b) : sameT a b = false := by
  rw [Bool.eq_false_iff]; exact fun e => h ((sameT_iff a b).1 e)
theorem sameTs_iff (r q : List T) : sameTs r q = true ↔ r = q := by
  have := sameT_iff (.mk 0 0 0 ⟨#[]⟩ r) (.mk 0 0 0 ⟨#[]⟩ q)
  rw [sameT] at this
  simpa using this
theorem sameTs_true {a b : List T} (h : a = b) : sameTs a b = true := (sameTs_iff a b).2 h
theorem sameTs_false {a b : List T} (h : ¬ a = b) : sameTs a b = false := by
  rw [Bool.eq_false_iff]; exact fun e => h ((sameTs_iff a b).1 e)
theorem sameT_comm (a b : T) : sameT a b = sameT b a := by
  by_cases h : a = b
  · rw [sameT_true h, sameT_true h.symm]
  · rw [sameT_false h, sameT_false (fun e => h e.symm)]
set_option maxHeartbeats 1000000 in
theorem spec_SameVal : ∀ t u : T, ∀ (a a' : Option Addr) (cap cap' B : Nat) (w : World), R w B a cap t.l → R w B a' cap' u.l → B ≤ w.heap.size →
    Calls Tryz.prog 176 #[.agg (cV t a cap), .agg (cV u a' cap')] w fun e w' => e = .returned (.bool (sameT t u)) ∧ Below w.heap.size w w' := by
  intro t
  induction t using T.ind with
  | h k n x s l ih =>
    intro u a a' cap cap' B w hr hr' hB
    have IH := Lib.hid ih; clear ih
    obtain ⟨k', n', x', s', l'⟩ := u
    simp only [cV, T.k, T.n, T.x, T.s, T.l] at hr hr' ⊢
    obtain ⟨hl1, hl2⟩ := hr.len
    obtain ⟨hm1, hm2⟩ := hr'.len
    have HR := Lib.hid hr; clear hr
    have HR' := Lib.hid hr'; clear hr'
    have H3 := Lib.hid (below2 w (.cells #[Value.int IntKind.i64 k, Value.int IntKind.i64 n, Value.int IntKind.i64 x, Value.string s, Value.slice a l.length cap] 26) (.cells #[Value.int IntKind.i64 k', Value.int IntKind.i64 n', Value.int IntKind.i64 x', Value.string s', Value.slice a' l'.length cap'] 26))
    by_cases hk : k = k'
    case neg =>
      have h1 : (k == k') = false := by simp [hk]
      have h2 : (k != k') = true := by simp [hk]
      have HE := Lib.hid (show sameT (T.mk k n x s l) (T.mk k' n' x' s' l') = false from sameT_false (fun e => hk (by injection e)))
      clear hk
      go_enter Tryz.func176, Tryz.ntmps176
      go_wp2_with fail
      go_ret
      exact ⟨ret_b HE.out.symm, H3.out⟩
    subst hk
    by_cases hk : n = n'
    case neg =>
      have h1 : (n == n') = false := by simp [hk]
      have h2 : (n != n') = true := by simp [hk]
      have HE := Lib.hid (show sameT (T.mk k n x s l) (T.mk k n' x' s' l') = false from sameT_false (fun e => hk (by injection e)))
      clear hk
      go_enter Tryz.func176, Tryz.ntmps176
      go_wp2_with fail
      go_ret
      exact ⟨ret_b HE.out.symm, H3.out⟩
    subst hk
    by_cases hk : x = x'
    case neg =>
      have h1 : (x == x') = false := by simp [hk]
      have h2 : (x != x') = true := by simp [hk]
      have HE := Lib.hid (show sameT (T.mk k n x s l) (T.mk k n x' s' l') = false from sameT_false (fun e => hk (by injection e)))
      clear hk
      go_enter Tryz.func176, Tryz.ntmps176
      go_wp2_with fail
      go_ret
      exact ⟨ret_b HE.out.symm, H3.out⟩
    subst hk
    by_cases hk : s = s'
    case neg =>
      have h1 := bytes_ne hk
      have h2 : (s.toList != s'.toList) = true := by simp [bne, h1]
      have HE := Lib.hid (show sameT (T.mk k n x s l) (T.mk k n x s' l') = false from sameT_false (fun e => hk (by injection e)))
      clear hk
      go_enter Tryz.func176, Tryz.ntmps176
      go_wp2_with fail
      go_ret
      exact ⟨ret_b HE.out.symm, H3.out⟩
    subst hk
    by_cases hk : l.length = l'.length
    case neg =>
      have h1 : ((l.length : Int) == l'.length) = false := by rw [beq_eq_false_iff_ne]; omega
      have h2 : ((l.length : Int) != l'.length) = true := by simp [bne, h1]
      have HE := Lib.hid (show sameT (T.mk k n x s l) (T.mk k n x s l') = false from sameT_false (fun e => hk (by injection e with _ _ _ _ e5; rw [e5])))
      clear hk
      go_enter Tryz.func176, Tryz.ntmps176
      go_wp2_with fail
      go_ret
      exact ⟨ret_b HE.out.symm, H3.out⟩
    have h1 : ((l.length : Int) == l'.length) = true := by simp [hk]
    have h2 : ((l.length : Int) != l'.length) = false := by simp [hk]
    have HL := Lib.hid hk; clear hk
    have q1 : Is ((w.alloc (.cells #[Value.int IntKind.i64 k, Value.int IntKind.i64 n, Value.int IntKind.i64 x, Value.string s, Value.slice a l.length cap] 26)).alloc (.cells #[Value.int IntKind.i64 k, Value.int IntKind.i64 n, Value.int IntKind.i64 x, Value.string s, Value.slice a' l'.length cap'] 26)) w.heap.size 26 _ := (Is.new _ _ _).alloc _
    have q2 := Is.new2 w (.cells #[Value.int IntKind.i64 k, Value.int IntKind.i64 n, Value.int IntKind.i64 x, Value.string s, Value.slice a l.length cap] 26) #[Value.int IntKind.i64 k, Value.int IntKind.i64 n, Value.int IntKind.i64 x, Value.string s, Value.slice a' l'.length cap'] 26
    have hs : w.heap.size + 2 ≤ ((w.alloc (.cells #[Value.int IntKind.i64 k, Value.int IntKind.i64 n, Value.int IntKind.i64 x, Value.string s, Value.slice a l.length cap] 26)).alloc (.cells #[Value.int IntKind.i64 k, Value.int IntKind.i64 n, Value.int IntKind.i64 x, Value.string s, Value.slice a' l'.length cap'] 26)).heap.size := by simp
    go_enter Tryz.func176, Tryz.ntmps176
    go_wp2_with fail
    generalize hW : (w.alloc (.cells #[Value.int IntKind.i64 k, Value.int IntKind.i64 n, Value.int IntKind.i64 x, Value.string s, Value.slice a l.length cap] 26)).alloc (.cells #[Value.int IntKind.i64 k, Value.int IntKind.i64 n, Value.int IntKind.i64 x, Value.string s, Value.slice a' l'.length cap'] 26) = W0 at q1 q2 H3 hs ⊢
    clear hW
    go_loopw [5] (fun i wr => ∃ (j : Nat), j ≤ l.length ∧ i = .int .i64 j ∧ Hid (l.take j = l'.take j) ∧ Below W0.heap.size W0 wr) (fun i _ => l.length - (intOf i).toNat)
    case atStart => exact ⟨0, Nat.zero_le _, rfl, rfl, Below.refl _ _⟩
    case round =>
      obtain ⟨j, hj, rfl, HP, hb⟩ := hrel
      have hbs := hb.size
      obtain ⟨c0, c1, c2, c3, c4⟩ := (q1.below hb (by omega)).cells5
      obtain ⟨e0, e1, e2, e3, e4⟩ := (q2.below hb (by omega)).cells5
      by_cases hlt : j < l.length
      · have hlt' : j < l'.length := by have := HL.out; omega
        have hR := (HR.out.below H3.out hB).below hb (by omega)
        have hR' := (HR'.out.below H3.out hB).below hb (by omega)
        obtain ⟨b, o, a2, cap2, rfl, hbl, d0, d1, d2, d3, d4, hwf, hq⟩ := hR.get j hlt
        obtain ⟨b', o', a3, cap3, rfl, hbl', d0', d1', d2', d3', d4', hwf', hq'⟩ := hR'.get j hlt'
        have l1 : b < wr.heap.size := by omega
        have l2 : b' < wr.heap.size := by omega
        have l3 : w.heap.size < wr.heap.size := by omega
        have l4 : w.heap.size + 1 < wr.heap.size := by omega
        clear hR hR' hwf hwf'
        go_wp2_with fail
        go_region_held3 (fun w' => (∀ b o, b < wr.heap.size → w'.cell? ⟨b, o, none⟩ = wr.cell? ⟨b, o, none⟩) ∧ Below (wr.heap.size) wr w') (first | exact ⟨fun _ _ _ => rfl, (Below.refl _ _).drew⟩ | assumption | exact keep_step (by assumption) (Below.drew (Below.refl _ _)) (Nat.le_refl _) | exact keep_step (by assumption) (by assumption) (by first | omega | (simp only [World.size_drew]; omega) | (simp only [size_alloc]; omega) | (simp only [World.size_drew, size_alloc]; omega) | (have := (‹(_ ∧ Below (wr.heap.size) wr _)›).2.size; first | omega | (simp only [World.size_drew]; omega) | (simp only [size_alloc]; omega) | (simp only [World.size_drew, size_alloc]; omega) | (simp only [World.size_drew] at this; omega) | (simp only [size_alloc] at this; omega) | (simp only [World.size_drew, size_alloc] at this; omega))) | exact keep_step (by assumption) (below1 _ _) (by first | omega | (simp only [World.size_drew]; omega) | (simp only [size_alloc]; omega) | (simp only [World.size_drew, size_alloc]; omega) | (have := (‹(_ ∧ Below (wr.heap.size) wr _)›).2.size; first | omega | (simp only [World.size_drew]; omega) | (simp only [size_alloc]; omega) | (simp only [World.size_drew, size_alloc]; omega) | (simp only [World.size_drew] at this; omega) | (simp only [size_alloc] at this; omega) | (simp only [World.size_drew, size_alloc] at this; omega)))) (first | (go_at_call 176; refine (IH.out l[j] (List.getElem_mem hlt) l'[j] _ _ _ _ B _ ?_ ?_ (by have := (‹_ ∧ Below (wr.heap.size) wr _›).2.size; omega)).mono ?_; (exact hq.below (‹_ ∧ Below (wr.heap.size) wr _›).2 (by omega)); (exact hq'.below (‹_ ∧ Below (wr.heap.size) wr _›).2 (by omega)); rintro e w2 ⟨rfl, hb2⟩))
        have K := Lib.hid (hb.trans ((‹_ ∧ Below (wr.heap.size) wr _›).2.mono hbs))
        clear hb2
        by_cases he : l[j] = l'[j]
        · have HE := Lib.hid (show l.take (j + 1) = l'.take (j + 1) from by rw [take_snoc l j hlt, take_snoc l' j hlt', HP.out, he])
          have hd := sameT_true he
          clear he
          rw [hd]
          go_wp2_with fail
          go_roundw
          case rel => exact ⟨j + 1, by omega, by go_num, HE.out, K.out⟩
          case measure => simp [intOf]; omega
        · have HE := Lib.hid (show sameT (T.mk k n x s l) (T.mk k n x s l') = false from sameT_false (fun e => he (by injection e with _ _ _ _ e5; subst e5; rfl)))
          have hd := sameT_false he
          clear he
          rw [hd]
          go_wp2_with fail
          go_ret
          exact ⟨ret_b HE.out.symm, H3.out.trans (K.out.mono (by omega))⟩
      · have HJ := Lib.hid (show sameT (T.mk k n x s l) (T.mk k n x s l') = true from sameT_true (by have := HP.out; have h2 := HL.out; rw [List.take_of_length_le (by omega), List.take_of_length_le (by omega)] at this; rw [this]))
        go_wp2_with fail
        go_ret
        exact ⟨ret_b HJ.out.symm, H3.out.trans (hb.mono (by omega))⟩
set_option maxHeartbeats 1000000 in
theorem equalFuncVal (l l' : List T) (IH : Hid (∀ t ∈ l, ∀ u : T, ∀ (a a' : Option Addr) (cap cap' B : Nat) (w : World), R w B a cap t.l → R w B a' cap' u.l → B ≤ w.heap.size →
    Calls Tryz.prog 215 #[.agg (cV t a cap), .agg (cV u a' cap')] w fun e w' => e = .returned (.bool (sameT t u)) ∧ Below w.heap.size w w')) (a a' : Option Addr) (cap cap' B : Nat) (w : World) (hr : R w B a cap l) (hr' : R w B a' cap' l') (hB : B ≤ w.heap.size) :
    Calls Tryz.prog 253 #[.slice a l.length cap, .slice a' l'.length cap', .func (.func 215) #[] #[]] w fun e w' => e = .returned (.bool (sameTs l l')) ∧ Below w.heap.size w w' := by
  obtain ⟨hl1, hl2⟩ := hr.len
  obtain ⟨hm1, hm2⟩ := hr'.len
  have HR := Lib.hid hr; clear hr
  have HR' := Lib.hid hr'; clear hr'
  by_cases hpq : l.length = l'.length
  · have hn : ((l.length : Int) == l'.length) = true := by simp [hpq]
    have hn2 : ((l.length : Int) != l'.length) = false := by simp [hpq]
    have HL := Lib.hid hpq; clear hpq
    go_enter Tryz.func253, Tryz.ntmps253
    go_wp2_with fail
    go_loopw [17, 7, 8, 9] (fun i _ _ _ wr => ∃ (j : Nat), j ≤ l.length ∧ i = .int .i64 j ∧ Hid (l.take j = l'.take j) ∧ Below w.heap.size w wr) (fun i _ _ _ _ => l.length - (intOf i).toNat)
    case atStart => exact ⟨0, Nat.zero_le _, rfl, rfl, Below.refl _ _⟩
    case round =>
      obtain ⟨j, hj, rfl, HP, hb⟩ := hrel
      by_cases hlt : j < l.length
      · have hlt' : j < l'.length := by have := HL.out; omega
        obtain ⟨b, o, a2, cap2, rfl, hbl, d0, d1, d2, d3, d4, hwf, hq⟩ := (HR.out.below hb hB).get j hlt
        obtain ⟨b', o', a3, cap3, rfl, hbl', d0', d1', d2', d3', d4', hwf', hq'⟩ := (HR'.out.below hb hB).get j hlt'
        have hbs := hb.size
        have l1 : b < wr.heap.size := by omega
        have l2 : b' < wr.heap.size := by omega
        have H3 := Lib.hid (below2 wr (.cells (cV l[j] a2 cap2) 26) (.cells (cV l'[j] a3 cap3) 26))
        clear hwf hwf'
        go_wp2_with fail
        refine (IH.out l[j] (List.getElem_mem hlt) l'[j] a2 a3 cap2 cap3 B _ (hq.below H3.out (by omega)) (hq'.below H3.out (by omega)) (by simp; omega)).mono ?_
        rintro e w2 ⟨rfl, hb2⟩
        have K := Lib.hid (hb.trans ((below_step H3.out hb2 (by simp; omega)).mono hbs))
        clear hb2
        by_cases he : l[j] = l'[j]
        · have HE := Lib.hid (show l.take (j + 1) = l'.take (j + 1) from by rw [take_snoc l j hlt, take_snoc l' j hlt', HP.out, he])
          have hd := sameT_true he
          clear he
          rw [hd]
          go_wp2_with fail
          go_roundw
          case rel => exact ⟨j + 1, by omega, by go_num, HE.out, K.out⟩
          case measure => simp [intOf]; omega
        · have HE := Lib.hid (show sameTs l l' = false from sameTs_false (fun e => he (by subst e; rfl)))
          have hd := sameT_false he
          clear he
          rw [hd]
          go_wp2_with fail
          go_ret
          exact ⟨ret_b HE.out.symm, K.out⟩
      · have HJ := Lib.hid (show sameTs l l' = true from sameTs_true (by have := HP.out; have h2 := HL.out; rwa [List.take_of_length_le (by omega), List.take_of_length_le (by omega)] at this))
        go_wp2_with fail
        go_ret
        exact ⟨ret_b HJ.out.symm, hb⟩
  · have hn : ((l.length : Int) == l'.length) = false := by rw [beq_eq_false_iff_ne]; omega
    have HL := Lib.hid (show sameTs l l' = false from sameTs_false (fun e => hpq (by rw [e]))); clear hpq
    go_enter Tryz.func253, Tryz.ntmps253
    go_wp2_with fail
    go_ret
    exact ⟨ret_b HL.out.symm, Below.refl _ _⟩
set_option maxHeartbeats 1000000 in
theorem impl_SameVal : ∀ t u : T, ∀ (a a' : Option Addr) (cap cap' B : Nat) (w : World), R w B a cap t.l → R w B a' cap' u.l → B ≤ w.heap.size →
    Calls Tryz.prog 215 #[.agg (cV t a cap), .agg (cV u a' cap')] w fun e w' => e = .returned (.bool (sameT t u)) ∧ Below w.heap.size w w' := by
  intro t
  induction t using T.ind with
  | h k n x s l ih =>
    intro u a a' cap cap' B w hr hr' hB
    have IH := Lib.hid ih; clear ih
    obtain ⟨k', n', x', s', l'⟩ := u
    simp only [cV, T.k, T.n, T.x, T.s, T.l] at hr hr' ⊢
    obtain ⟨hl1, hl2⟩ := hr.len
    obtain ⟨hm1, hm2⟩ := hr'.len
    have HR := Lib.hid hr; clear hr
    have HR' := Lib.hid hr'; clear hr'
    have H3 := Lib.hid (below2 w (.cells #[Value.int IntKind.i64 k, Value.int IntKind.i64 n, Value.int IntKind.i64 x, Value.string s, Value.slice a l.length cap] 26) (.cells #[Value.int IntKind.i64 k', Value.int IntKind.i64 n', Value.int IntKind.i64 x', Value.string s', Value.slice a' l'.length cap'] 26))
    by_cases hk : k = k'
    case neg =>
      have h1 : (k == k') = false := by simp [hk]
      have HE := Lib.hid (show sameT (T.mk k n x s l) (T.mk k' n' x' s' l') = false from sameT_false (fun e => hk (by injection e)))
      clear hk
      go_enter Tryz.func215, Tryz.ntmps215
      go_wp2_with fail
      go_ret
      exact ⟨ret_b HE.out.symm, H3.out⟩
    subst hk
    by_cases hk : n = n'
    case neg =>
      have h1 : (n == n') = false := by simp [hk]
      have HE := Lib.hid (show sameT (T.mk k n x s l) (T.mk k n' x' s' l') = false from sameT_false (fun e => hk (by injection e)))
      clear hk
      go_enter Tryz.func215, Tryz.ntmps215
      go_wp2_with fail
      go_ret
      exact ⟨ret_b HE.out.symm, H3.out⟩
    subst hk
    by_cases hk : x = x'
    case neg =>
      have h1 : (x == x') = false := by simp [hk]
      have HE := Lib.hid (show sameT (T.mk k n x s l) (T.mk k n x' s' l') = false from sameT_false (fun e => hk (by injection e)))
      clear hk
      go_enter Tryz.func215, Tryz.ntmps215
      go_wp2_with fail
      go_ret
      exact ⟨ret_b HE.out.symm, H3.out⟩
    subst hk
    by_cases hk : s = s'
    case neg =>
      have h1 := bytes_ne hk
      have HE := Lib.hid (show sameT (T.mk k n x s l) (T.mk k n x s' l') = false from sameT_false (fun e => hk (by injection e)))
      clear hk
      go_enter Tryz.func215, Tryz.ntmps215
      go_wp2_with fail
      go_ret
      exact ⟨ret_b HE.out.symm, H3.out⟩
    subst hk
    have HE := Lib.hid (show sameTs l l' = sameT (T.mk k n x s l) (T.mk k n x s l') from by
      by_cases e : l = l'
      · rw [sameT_true (by rw [e]), sameTs_true e]
      · rw [sameT_false (fun h => e (by injection h)), sameTs_false e])
    go_enter Tryz.func215, Tryz.ntmps215
    go_wp2_with fail
    refine (equalFuncVal l l' IH a a' cap cap' B _ (HR.out.below H3.out hB) (HR'.out.below H3.out hB) (by simp; omega)).mono ?_
    rintro e w2 ⟨rfl, hb2⟩
    rw [HE.out]
    go_wp2_with fail
    go_ret
    exact ⟨rfl, below_step H3.out hb2 (by simp; omega)⟩
end Go.Proofs.YtggdenkmohnijaaGreatDoor
