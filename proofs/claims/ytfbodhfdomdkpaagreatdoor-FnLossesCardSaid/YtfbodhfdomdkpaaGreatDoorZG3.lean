/- Texts of this proof, merged: Same2, Copy, PathAt. No condition beyond what each theorem states. -/
import Derived.Test.YtfbodhfdomdkpaaGreatDoorRows
import Derived.WalkKit
import Derived.ProofKit
import Derived.OpenShut
import Derived.Handy
import Derived.Lib.Hide
import Derived.Lib.SmallJoins
import Derived.Deep.RegionHeld3
import Derived.Deep.QuietTactic
import Derived.BigQuiet
import Derived.Test.YtfbodhfdomdkpaaGreatDoorZG1
import Derived.Test.YtfbodhfdomdkpaaGreatDoorZG2
import Derived.Deep.AppendLies
set_option linter.unusedSimpArgs false
set_option linter.unnecessarySimpa false
namespace Go.Proofs.YtfbodhfdomdkpaaGreatDoor
open Go.ChangeShapes Go.WideShapes Go.ChangeAt Go.RowKit Go.Joins
set_option linter.unusedVariables false
set_option maxRecDepth 100000
/-! Are two trees the same? -/
mutual
def sameT : T → T → Bool
  | .mk k n x s l, .mk k' n' x' s' l' => decide (k = k') && decide (n = n') && decide (x = x') && decide (s.data = s'.data) && sameTs l l'
def sameTs : List T → List T → Bool
  | [], [] => true
  | a :: r, b :: q => sameT a b && sameTs r q
  | [], _ :: _ => false
  | _ :: _, [] => false
end
theorem sameT_iff : ∀ a b : T, sameT a b = true ↔ a = b := by
  intro a
  induction a using T.ind with
  | h k n x s l ih =>
    intro b
    obtain ⟨k', n', x', s', l'⟩ := b
    have key : ∀ (r q : List T), (∀ t ∈ r, t ∈ l) → (sameTs r q = true ↔ r = q) := by
      intro r
      induction r with
      | nil => intro q _; cases q <;> simp [sameTs]
      | cons t r ihr =>
        intro q hm
        cases q with
        | nil => simp [sameTs]
        | cons u q =>
          rw [sameTs, Bool.and_eq_true, ih t (hm t (by simp)) u, ihr q (fun v hv => hm v (by simp [hv]))]
          simp
    rw [sameT]
    simp only [Bool.and_eq_true, decide_eq_true_eq, key l l' (fun _ h => h), T.mk.injEq]
    constructor
    · rintro ⟨⟨⟨⟨h1, h2⟩, h3⟩, h4⟩, h5⟩
      refine ⟨h1, h2, h3, ?_, h5⟩
      cases s; cases s'; simp at h4; rw [h4]
    · rintro ⟨h1, h2, h3, h4, h5⟩; exact ⟨⟨⟨⟨h1, h2⟩, h3⟩, by rw [h4]⟩, h5⟩
theorem sameT_true {a b : T} (h : a = b) : sameT a b = true := (sameT_iff a b).2 h
theorem sameT_false {a b : T} (h : ¬ a = b) : sameT a b = false := by
  rw [Bool.eq_false_iff]; exact fun e => h ((sameT_iff a b).1 e)
theorem sameTs_iff (r q : List T) : sameTs r q = true ↔ r = q := by
  have := sameT_iff (.mk 0 0 0 ⟨#[]⟩ r) (.mk 0 0 0 ⟨#[]⟩ q)
  rw [sameT] at this
  simpa using this
theorem sameTs_true {a b : List T} (h : a = b) : sameTs a b = true := (sameTs_iff a b).2 h
theorem sameTs_false {a b : List T} (h : ¬ a = b) : sameTs a b = false := by
  rw [Bool.eq_false_iff]; exact fun e => h ((sameTs_iff a b).1 e)
theorem sameT_comm (a b : T) : sameT a b = sameT b a := by
  by_cases h : a = b
  · rw [sameT_true h, sameT_true h.symm]
  · rw [sameT_false h, sameT_false (fun e => h e.symm)]
theorem T.ext_of {a b : T} (h1 : a.k = b.k) (h2 : a.n = b.n) (h3 : a.x = b.x) (h4 : a.s = b.s) (h5 : a.l = b.l) : a = b := by
  rw [← T.eta a, ← T.eta b, h1, h2, h3, h4, h5]
set_option maxHeartbeats 1000000 in
theorem spec_SameVal : ∀ t u : T, ∀ (a a' : Option Addr) (cap cap' B : Nat) (w : World), R w B a cap t.l → R w B a' cap' u.l → B ≤ w.heap.size →
    Calls Tryz.prog 231 #[.agg (cV t a cap), .agg (cV u a' cap')] w fun e w' => e = .returned (.bool (sameT t u)) ∧ Below w.heap.size w w' := by
  intro t
  induction t using T.ind with
  | h k n x s l ih =>
    intro u a a' cap cap' B w hr hr' hB
    have IH := Lib.hid ih; clear ih
    obtain ⟨k', n', x', s', l'⟩ := u
    simp only [cV, T.k, T.n, T.x, T.s, T.l] at hr hr' ⊢
    obtain ⟨hl1, hl2⟩ := hr.len
    obtain ⟨hm1, hm2⟩ := hr'.len
    have HR := Lib.hid hr; clear hr
    have HR' := Lib.hid hr'; clear hr'
    have H3 := Lib.hid (below2 w (.cells #[Value.int IntKind.i64 k, Value.int IntKind.i64 n, Value.int IntKind.i64 x, Value.string s, Value.slice a l.length cap] 36) (.cells #[Value.int IntKind.i64 k', Value.int IntKind.i64 n', Value.int IntKind.i64 x', Value.string s', Value.slice a' l'.length cap'] 36))
    by_cases hk : k = k'
    case neg =>
      have h1 : (k == k') = false := by simp [hk]
      have h2 : (k != k') = true := by simp [hk]
      have HE := Lib.hid (show sameT (T.mk k n x s l) (T.mk k' n' x' s' l') = false from sameT_false (fun e => hk (by injection e)))
      clear hk
      go_enter Tryz.func231, Tryz.ntmps231
      go_wp2_with fail
      go_ret
      exact ⟨ret_b HE.out.symm, H3.out⟩
    subst hk
    by_cases hk : n = n'
    case neg =>
      have h1 : (n == n') = false := by simp [hk]
      have h2 : (n != n') = true := by simp [hk]
      have HE := Lib.hid (show sameT (T.mk k n x s l) (T.mk k n' x' s' l') = false from sameT_false (fun e => hk (by injection e)))
      clear hk
      go_enter Tryz.func231, Tryz.ntmps231
      go_wp2_with fail
      go_ret
      exact ⟨ret_b HE.out.symm, H3.out⟩
    subst hk
    by_cases hk : x = x'
    case neg =>
      have h1 : (x == x') = false := by simp [hk]
      have h2 : (x != x') = true := by simp [hk]
      have HE := Lib.hid (show sameT (T.mk k n x s l) (T.mk k n x' s' l') = false from sameT_false (fun e => hk (by injection e)))
      clear hk
      go_enter Tryz.func231, Tryz.ntmps231
      go_wp2_with fail
      go_ret
      exact ⟨ret_b HE.out.symm, H3.out⟩
    subst hk
    by_cases hk : s = s'
    case neg =>
      have h1 := bytes_ne hk
      have h2 : (s.toList != s'.toList) = true := by simp [bne, h1]
      have HE := Lib.hid (show sameT (T.mk k n x s l) (T.mk k n x s' l') = false from sameT_false (fun e => hk (by injection e)))
      clear hk
      go_enter Tryz.func231, Tryz.ntmps231
      go_wp2_with fail
      go_ret
      exact ⟨ret_b HE.out.symm, H3.out⟩
    subst hk
    by_cases hk : l.length = l'.length
    case neg =>
      have h1 : ((l.length : Int) == l'.length) = false := by rw [beq_eq_false_iff_ne]; omega
      have h2 : ((l.length : Int) != l'.length) = true := by simp [bne, h1]
      have HE := Lib.hid (show sameT (T.mk k n x s l) (T.mk k n x s l') = false from sameT_false (fun e => hk (by injection e with _ _ _ _ e5; rw [e5])))
      clear hk
      go_enter Tryz.func231, Tryz.ntmps231
      go_wp2_with fail
      go_ret
      exact ⟨ret_b HE.out.symm, H3.out⟩
    have h1 : ((l.length : Int) == l'.length) = true := by simp [hk]
    have h2 : ((l.length : Int) != l'.length) = false := by simp [hk]
    have HL := Lib.hid hk; clear hk
    have q1 : Is ((w.alloc (.cells #[Value.int IntKind.i64 k, Value.int IntKind.i64 n, Value.int IntKind.i64 x, Value.string s, Value.slice a l.length cap] 36)).alloc (.cells #[Value.int IntKind.i64 k, Value.int IntKind.i64 n, Value.int IntKind.i64 x, Value.string s, Value.slice a' l'.length cap'] 36)) w.heap.size 36 _ := (Is.new _ _ _).alloc _
    have q2 := Is.new2 w (.cells #[Value.int IntKind.i64 k, Value.int IntKind.i64 n, Value.int IntKind.i64 x, Value.string s, Value.slice a l.length cap] 36) #[Value.int IntKind.i64 k, Value.int IntKind.i64 n, Value.int IntKind.i64 x, Value.string s, Value.slice a' l'.length cap'] 36
    have hs : w.heap.size + 2 ≤ ((w.alloc (.cells #[Value.int IntKind.i64 k, Value.int IntKind.i64 n, Value.int IntKind.i64 x, Value.string s, Value.slice a l.length cap] 36)).alloc (.cells #[Value.int IntKind.i64 k, Value.int IntKind.i64 n, Value.int IntKind.i64 x, Value.string s, Value.slice a' l'.length cap'] 36)).heap.size := by simp
    go_enter Tryz.func231, Tryz.ntmps231
    go_wp2_with fail
    generalize hW : (w.alloc (.cells #[Value.int IntKind.i64 k, Value.int IntKind.i64 n, Value.int IntKind.i64 x, Value.string s, Value.slice a l.length cap] 36)).alloc (.cells #[Value.int IntKind.i64 k, Value.int IntKind.i64 n, Value.int IntKind.i64 x, Value.string s, Value.slice a' l'.length cap'] 36) = W0 at q1 q2 H3 hs ⊢
    clear hW
    go_loopw [5] (fun i wr => ∃ (j : Nat), j ≤ l.length ∧ i = .int .i64 j ∧ Hid (l.take j = l'.take j) ∧ Below W0.heap.size W0 wr) (fun i _ => l.length - (intOf i).toNat)
    case atStart => exact ⟨0, Nat.zero_le _, rfl, rfl, Below.refl _ _⟩
    case round =>
      obtain ⟨j, hj, rfl, HP, hb⟩ := hrel
      have hbs := hb.size
      obtain ⟨c0, c1, c2, c3, c4⟩ := (q1.below hb (by omega)).cells5
      obtain ⟨e0, e1, e2, e3, e4⟩ := (q2.below hb (by omega)).cells5
      by_cases hlt : j < l.length
      · have hlt' : j < l'.length := by have := HL.out; omega
        have hR := (HR.out.below H3.out hB).below hb (by omega)
        have hR' := (HR'.out.below H3.out hB).below hb (by omega)
        obtain ⟨b, o, a2, cap2, rfl, hbl, d0, d1, d2, d3, d4, hwf, hq⟩ := hR.get j hlt
        obtain ⟨b', o', a3, cap3, rfl, hbl', d0', d1', d2', d3', d4', hwf', hq'⟩ := hR'.get j hlt'
        have l1 : b < wr.heap.size := by omega
        have l2 : b' < wr.heap.size := by omega
        have l3 : w.heap.size < wr.heap.size := by omega
        have l4 : w.heap.size + 1 < wr.heap.size := by omega
        clear hR hR' hwf hwf'
        go_wp2_with fail
        go_region_held3 (fun w' => (∀ b o, b < wr.heap.size → w'.cell? ⟨b, o, none⟩ = wr.cell? ⟨b, o, none⟩) ∧ Below (wr.heap.size) wr w') (first | exact ⟨fun _ _ _ => rfl, (Below.refl _ _).drew⟩ | exact keep_step (by assumption) (Below.drew (Below.refl _ _)) (Nat.le_refl _) | exact keep_step (by assumption) (by assumption) (by first | omega | (simp only [World.size_drew]; omega) | (simp only [size_alloc]; omega) | (simp only [World.size_drew, size_alloc]; omega) | (have := (‹(_ ∧ Below (wr.heap.size) wr _)›).2.size; first | omega | (simp only [World.size_drew]; omega) | (simp only [size_alloc]; omega) | (simp only [World.size_drew, size_alloc]; omega) | (simp only [World.size_drew] at this; omega) | (simp only [size_alloc] at this; omega) | (simp only [World.size_drew, size_alloc] at this; omega))) | exact keep_step (by assumption) (below1 _ _) (by first | omega | (simp only [World.size_drew]; omega) | (simp only [size_alloc]; omega) | (simp only [World.size_drew, size_alloc]; omega) | (have := (‹(_ ∧ Below (wr.heap.size) wr _)›).2.size; first | omega | (simp only [World.size_drew]; omega) | (simp only [size_alloc]; omega) | (simp only [World.size_drew, size_alloc]; omega) | (simp only [World.size_drew] at this; omega) | (simp only [size_alloc] at this; omega) | (simp only [World.size_drew, size_alloc] at this; omega)))) (first | (go_at_call 231; refine (IH.out l[j] (List.getElem_mem hlt) l'[j] _ _ _ _ B _ ?_ ?_ (by have := (‹_ ∧ Below (wr.heap.size) wr _›).2.size; omega)).mono ?_; (exact hq.below (‹_ ∧ Below (wr.heap.size) wr _›).2 (by omega)); (exact hq'.below (‹_ ∧ Below (wr.heap.size) wr _›).2 (by omega)); rintro e w2 ⟨rfl, hb2⟩))
        have K := Lib.hid (hb.trans ((‹_ ∧ Below (wr.heap.size) wr _›).2.mono hbs))
        clear hb2
        by_cases he : l[j] = l'[j]
        · have HE := Lib.hid (show l.take (j + 1) = l'.take (j + 1) from by rw [take_snoc l j hlt, take_snoc l' j hlt', HP.out, he])
          have hd := sameT_true he
          clear he
          rw [hd]
          go_wp2_with fail
          go_roundw
          case rel => exact ⟨j + 1, by omega, by go_num, HE.out, K.out⟩
          case measure => simp [intOf]; omega
        · have HE := Lib.hid (show sameT (T.mk k n x s l) (T.mk k n x s l') = false from sameT_false (fun e => he (by injection e with _ _ _ _ e5; subst e5; rfl)))
          have hd := sameT_false he
          clear he
          rw [hd]
          go_wp2_with fail
          go_ret
          exact ⟨ret_b HE.out.symm, H3.out.trans (K.out.mono (by omega))⟩
      · have HJ := Lib.hid (show sameT (T.mk k n x s l) (T.mk k n x s l') = true from sameT_true (by have := HP.out; have h2 := HL.out; rw [List.take_of_length_le (by omega), List.take_of_length_le (by omega)] at this; rw [this]))
        go_wp2_with fail
        go_ret
        exact ⟨ret_b HJ.out.symm, H3.out.trans (hb.mono (by omega))⟩
set_option maxHeartbeats 1000000 in
theorem equalFuncVal (l l' : List T) (IH : Hid (∀ t ∈ l, ∀ u : T, ∀ (a a' : Option Addr) (cap cap' B : Nat) (w : World), R w B a cap t.l → R w B a' cap' u.l → B ≤ w.heap.size →
    Calls Tryz.prog 172 #[.agg (cV t a cap), .agg (cV u a' cap')] w fun e w' => e = .returned (.bool (sameT t u)) ∧ Below w.heap.size w w')) (a a' : Option Addr) (cap cap' B : Nat) (w : World) (hr : R w B a cap l) (hr' : R w B a' cap' l') (hB : B ≤ w.heap.size) :
    Calls Tryz.prog 237 #[.slice a l.length cap, .slice a' l'.length cap', .func (.func 172) #[] #[]] w fun e w' => e = .returned (.bool (sameTs l l')) ∧ Below w.heap.size w w' := by
  obtain ⟨hl1, hl2⟩ := hr.len
  obtain ⟨hm1, hm2⟩ := hr'.len
  have HR := Lib.hid hr; clear hr
  have HR' := Lib.hid hr'; clear hr'
  by_cases hpq : l.length = l'.length
  · have hn : ((l.length : Int) == l'.length) = true := by simp [hpq]
    have hn2 : ((l.length : Int) != l'.length) = false := by simp [hpq]
    have HL := Lib.hid hpq; clear hpq
    go_enter Tryz.func237, Tryz.ntmps237
    go_wp2_with fail
    go_loopw [17, 7, 8, 9] (fun i _ _ _ wr => ∃ (j : Nat), j ≤ l.length ∧ i = .int .i64 j ∧ Hid (l.take j = l'.take j) ∧ Below w.heap.size w wr) (fun i _ _ _ _ => l.length - (intOf i).toNat)
    case atStart => exact ⟨0, Nat.zero_le _, rfl, rfl, Below.refl _ _⟩
    case round =>
      obtain ⟨j, hj, rfl, HP, hb⟩ := hrel
      by_cases hlt : j < l.length
      · have hlt' : j < l'.length := by have := HL.out; omega
        obtain ⟨b, o, a2, cap2, rfl, hbl, d0, d1, d2, d3, d4, hwf, hq⟩ := (HR.out.below hb hB).get j hlt
        obtain ⟨b', o', a3, cap3, rfl, hbl', d0', d1', d2', d3', d4', hwf', hq'⟩ := (HR'.out.below hb hB).get j hlt'
        have hbs := hb.size
        have l1 : b < wr.heap.size := by omega
        have l2 : b' < wr.heap.size := by omega
        have H3 := Lib.hid (below2 wr (.cells (cV l[j] a2 cap2) 36) (.cells (cV l'[j] a3 cap3) 36))
        clear hwf hwf'
        go_wp2_with fail
        refine (IH.out l[j] (List.getElem_mem hlt) l'[j] a2 a3 cap2 cap3 B _ (hq.below H3.out (by omega)) (hq'.below H3.out (by omega)) (by simp; omega)).mono ?_
        rintro e w2 ⟨rfl, hb2⟩
        have K := Lib.hid (hb.trans ((below_step H3.out hb2 (by simp; omega)).mono hbs))
        clear hb2
        by_cases he : l[j] = l'[j]
        · have HE := Lib.hid (show l.take (j + 1) = l'.take (j + 1) from by rw [take_snoc l j hlt, take_snoc l' j hlt', HP.out, he])
          have hd := sameT_true he
          clear he
          rw [hd]
          go_wp2_with fail
          go_roundw
          case rel => exact ⟨j + 1, by omega, by go_num, HE.out, K.out⟩
          case measure => simp [intOf]; omega
        · have HE := Lib.hid (show sameTs l l' = false from sameTs_false (fun e => he (by subst e; rfl)))
          have hd := sameT_false he
          clear he
          rw [hd]
          go_wp2_with fail
          go_ret
          exact ⟨ret_b HE.out.symm, K.out⟩
      · have HJ := Lib.hid (show sameTs l l' = true from sameTs_true (by have := HP.out; have h2 := HL.out; rwa [List.take_of_length_le (by omega), List.take_of_length_le (by omega)] at this))
        go_wp2_with fail
        go_ret
        exact ⟨ret_b HJ.out.symm, hb⟩
  · have hn : ((l.length : Int) == l'.length) = false := by rw [beq_eq_false_iff_ne]; omega
    have HL := Lib.hid (show sameTs l l' = false from sameTs_false (fun e => hpq (by rw [e]))); clear hpq
    go_enter Tryz.func237, Tryz.ntmps237
    go_wp2_with fail
    go_ret
    exact ⟨ret_b HL.out.symm, Below.refl _ _⟩
set_option maxHeartbeats 1000000 in
theorem impl_SameVal : ∀ t u : T, ∀ (a a' : Option Addr) (cap cap' B : Nat) (w : World), R w B a cap t.l → R w B a' cap' u.l → B ≤ w.heap.size →
    Calls Tryz.prog 172 #[.agg (cV t a cap), .agg (cV u a' cap')] w fun e w' => e = .returned (.bool (sameT t u)) ∧ Below w.heap.size w w' := by
  intro t
  induction t using T.ind with
  | h k n x s l ih =>
    intro u a a' cap cap' B w hr hr' hB
    have IH := Lib.hid ih; clear ih
    obtain ⟨k', n', x', s', l'⟩ := u
    simp only [cV, T.k, T.n, T.x, T.s, T.l] at hr hr' ⊢
    obtain ⟨hl1, hl2⟩ := hr.len
    obtain ⟨hm1, hm2⟩ := hr'.len
    have HR := Lib.hid hr; clear hr
    have HR' := Lib.hid hr'; clear hr'
    have H3 := Lib.hid (below2 w (.cells #[Value.int IntKind.i64 k, Value.int IntKind.i64 n, Value.int IntKind.i64 x, Value.string s, Value.slice a l.length cap] 36) (.cells #[Value.int IntKind.i64 k', Value.int IntKind.i64 n', Value.int IntKind.i64 x', Value.string s', Value.slice a' l'.length cap'] 36))
    by_cases hk : k = k'
    case neg =>
      have h1 : (k == k') = false := by simp [hk]
      have HE := Lib.hid (show sameT (T.mk k n x s l) (T.mk k' n' x' s' l') = false from sameT_false (fun e => hk (by injection e)))
      clear hk
      go_enter Tryz.func172, Tryz.ntmps172
      go_wp2_with fail
      go_ret
      exact ⟨ret_b HE.out.symm, H3.out⟩
    subst hk
    by_cases hk : n = n'
    case neg =>
      have h1 : (n == n') = false := by simp [hk]
      have HE := Lib.hid (show sameT (T.mk k n x s l) (T.mk k n' x' s' l') = false from sameT_false (fun e => hk (by injection e)))
      clear hk
      go_enter Tryz.func172, Tryz.ntmps172
      go_wp2_with fail
      go_ret
      exact ⟨ret_b HE.out.symm, H3.out⟩
    subst hk
    by_cases hk : x = x'
    case neg =>
      have h1 : (x == x') = false := by simp [hk]
      have HE := Lib.hid (show sameT (T.mk k n x s l) (T.mk k n x' s' l') = false from sameT_false (fun e => hk (by injection e)))
      clear hk
      go_enter Tryz.func172, Tryz.ntmps172
      go_wp2_with fail
      go_ret
      exact ⟨ret_b HE.out.symm, H3.out⟩
    subst hk
    by_cases hk : s = s'
    case neg =>
      have h1 := bytes_ne hk
      have HE := Lib.hid (show sameT (T.mk k n x s l) (T.mk k n x s' l') = false from sameT_false (fun e => hk (by injection e)))
      clear hk
      go_enter Tryz.func172, Tryz.ntmps172
      go_wp2_with fail
      go_ret
      exact ⟨ret_b HE.out.symm, H3.out⟩
    subst hk
    have HE := Lib.hid (show sameTs l l' = sameT (T.mk k n x s l) (T.mk k n x s l') from by
      by_cases e : l = l'
      · rw [sameT_true (by rw [e]), sameTs_true e]
      · rw [sameT_false (fun h => e (by injection h)), sameTs_false e])
    go_enter Tryz.func172, Tryz.ntmps172
    go_wp2_with fail
    refine (equalFuncVal l l' IH a a' cap cap' B _ (HR.out.below H3.out hB) (HR'.out.below H3.out hB) (by simp; omega)).mono ?_
    rintro e w2 ⟨rfl, hb2⟩
    rw [HE.out]
    go_wp2_with fail
    go_ret
    exact ⟨rfl, below_step H3.out hb2 (by simp; omega)⟩
end Go.Proofs.YtfbodhfdomdkpaaGreatDoor
namespace Go.Proofs.YtfbodhfdomdkpaaGreatDoor
open Go.ChangeShapes Go.WideShapes Go.ChangeAt Go.RowKit Go.Joins
set_option linter.unusedVariables false
set_option maxRecDepth 100000
section
variable {α : Type} {E : World → Nat → Nat → α → List Nat → Prop} {n : Nat} {e : TypeId} {nd : Prop}
theorem App.row {w : World} {lo hi cap : Nat} {a : Option Addr} {l : List α} (h : App E n e nd w lo hi a cap l) : ∀ k, (Value.slice a l.length cap).ownBlock = some k → lo ≤ k ∧ k < hi := by
  intro k hk
  rcases h with ⟨rfl, rfl, rfl⟩ | ⟨g, cur, F, rfl, k1, k2, _⟩
  · simp [Value.ownBlock] at hk
  · simp only [Value.ownBlock, Option.some.injEq] at hk; subst hk; exact ⟨k1, k2⟩
/-- Append of one element whose own blocks are all new. -/
theorem wpList_app1 {P : Program} {w : World} (hE : Elem E n) {ops : Array Oper} {rest : List Oper} {o : Oper} {act : Act} {Q : Exit → Act → World → Prop} (hgd : o.guard = none) (s x : Operand) (t : TypeId)
    (ho : o.op = .call { callee := .builtin .append, args := #[s, x], argTypes := #[t, t] }) (z : Value) (bytes : Nat) (ht : P.underlying t = some (.slice e)) (hinfo : (P.info? e).map (fun i => (i.zero, i.size, i.bytes)) = some (some z, n, bytes)) (hzs : z.cells.size = n)
    (lo hi : Nat) (a : Option Addr) (cap : Nat) (l : List α) (hs : act.eval s = .slice a l.length cap) (happ : App E n e nd w lo hi a cap l) (hhi : hi ≤ w.heap.size) (hlo : lo ≤ hi)
    (b off c : Nat) (y : α) (G : List Nat) (hx : act.eval x = .slice (some ⟨b, off, none⟩) 1 c) (hys : E w b off y G) (hG : G.Nodup) (hG2 : ∀ f ∈ G, hi ≤ f ∧ f < w.heap.size ∧ Unf w f)
    (h63 : l.length + 1 ≤ maxLen) (hbytes : (l.length + 1) * bytes ≤ 140737488355328)
    (h : ∀ a' cap' w', App E n e nd w' lo w'.heap.size a' cap' (l ++ [y]) → Below lo w w' → (∀ f, f < w.heap.size → (∀ k, (Value.slice a l.length cap).ownBlock = some k → f ≠ k) → w'.heap[f]? = w.heap[f]?) → wpList P ops Q rest (act.put o.dst (.slice a' (l ++ [y]).length cap')) w') : wpList P ops Q (o :: rest) act w :=
  wpList_app hE hgd s x t ho z bytes ht hinfo hzs lo hi a cap l hs happ hhi (Nat.le_trans hlo hhi) b off 1 c [y] G hx rfl ⟨G, [], by simp, hys, rfl⟩ (fun _ => hG)
    (fun f hf => ⟨Nat.le_trans hlo (hG2 f hf).1, (hG2 f hf).2.1, (hG2 f hf).2.2, fun k hk => by have := (happ.row k hk).2; have := (hG2 f hf).1; omega⟩) (fun _ f hf => (hG2 f hf).1) (by omega) h63 hbytes h
end
theorem App.agree {α : Type} {E : World → Nat → Nat → α → List Nat → Prop} {n : Nat} {e : TypeId} {nd : Prop} (hE : Elem E n) {w w' : World} {lo hi cap : Nat} {a : Option Addr} {l : List α} (h : App E n e nd w lo hi a cap l) (hw : ∀ f, lo ≤ f → f < hi → w'.heap[f]? = w.heap[f]?) : App E n e nd w' lo hi a cap l := by
  rcases h with h | ⟨g, cur, F, ha, h1, h2, h3, h4, h5, h6, h7, h8, h9, h10⟩
  · exact Or.inl h
  · have hf : ∀ f ∈ F, w'.heap[f]? = w.heap[f]? := fun f hf => hw f (h10 f hf).1 (h10 f hf).2.1
    refine Or.inr ⟨g, cur, F, ha, h1, h2, (hw g h1 h2).trans h3, h4, h5, h6, h7.agree hE.loc l (Cells.of_block (hw g h1 h2) _ _) hf, h8, h9, fun f hm => ⟨(h10 f hm).1, (h10 f hm).2.1, (h10 f hm).2.2.agree (hf f hm)⟩⟩
theorem Is.set {w : World} {g : Nat} {e : TypeId} {cs : Array Value} (h : Is w g e cs) (i : Nat) (v : Value) : Is (w.setCell ⟨g, i, none⟩ v) g e (cs.setIfInBounds i v) := by
  unfold Is at *
  simp [World.setCell, Array.getElem?_modify, h]
theorem Is.miss {w : World} {g : Nat} {e : TypeId} {cs : Array Value} (h : Is w g e cs) (b i : Nat) (hb : g ≠ b) (v : Value) : Is (w.setCell ⟨b, i, none⟩ v) g e cs := (heap_miss w b i g hb v).trans h
theorem TV.box {w : World} {a : Option Addr} {cap : Nat} {t : T} {G : List Nat} (e : TypeId) (h : TL w a cap t.l G) (hwf : Wf t) (hG : ∀ f ∈ G, f < w.heap.size) : TV (w.alloc (.cells (cV t a cap) e)) w.heap.size 0 t G := by
  obtain ⟨c0, c1, c2, c3, c4⟩ := (Is.new w (cV t a cap) e).cells5
  rw [← T.eta t, TV.iff]
  exact ⟨c0, c1, c2, c3, hwf.1, hwf.2.1, hwf.2.2.1, hwf.2.2.2, a, cap, c4, h.agree (fun f hf => (below1 w _).block f (hG f hf))⟩
theorem Unf.alloc {w : World} {f : Nat} (h : Unf w f) (o : Obj) : Unf (w.alloc o) f := h.agree ((below1 w o).block f h.lt)
theorem out5 {W : World} {g : Nat} {e : TypeId} (hk : Blk W g e 5) (v0 v1 v2 v3 v4 : Value) (B : Nat) (hB : B ≤ g) :
    (((((W.setCell ⟨g, 0, none⟩ v0).setCell ⟨g, 1, none⟩ v1).setCell ⟨g, 2, none⟩ v2).setCell ⟨g, 3, none⟩ v3).setCell ⟨g, 4, none⟩ v4).cell? ⟨g, 0, none⟩ = some v0 ∧
    (((((W.setCell ⟨g, 0, none⟩ v0).setCell ⟨g, 1, none⟩ v1).setCell ⟨g, 2, none⟩ v2).setCell ⟨g, 3, none⟩ v3).setCell ⟨g, 4, none⟩ v4).cell? ⟨g, 1, none⟩ = some v1 ∧
    (((((W.setCell ⟨g, 0, none⟩ v0).setCell ⟨g, 1, none⟩ v1).setCell ⟨g, 2, none⟩ v2).setCell ⟨g, 3, none⟩ v3).setCell ⟨g, 4, none⟩ v4).cell? ⟨g, 2, none⟩ = some v2 ∧
    (((((W.setCell ⟨g, 0, none⟩ v0).setCell ⟨g, 1, none⟩ v1).setCell ⟨g, 2, none⟩ v2).setCell ⟨g, 3, none⟩ v3).setCell ⟨g, 4, none⟩ v4).cell? ⟨g, 3, none⟩ = some v3 ∧
    (((((W.setCell ⟨g, 0, none⟩ v0).setCell ⟨g, 1, none⟩ v1).setCell ⟨g, 2, none⟩ v2).setCell ⟨g, 3, none⟩ v3).setCell ⟨g, 4, none⟩ v4).cell? ⟨g, 4, none⟩ = some v4 ∧
    Below B W (((((W.setCell ⟨g, 0, none⟩ v0).setCell ⟨g, 1, none⟩ v1).setCell ⟨g, 2, none⟩ v2).setCell ⟨g, 3, none⟩ v3).setCell ⟨g, 4, none⟩ v4) ∧
    (∀ f, f ≠ g → (((((W.setCell ⟨g, 0, none⟩ v0).setCell ⟨g, 1, none⟩ v1).setCell ⟨g, 2, none⟩ v2).setCell ⟨g, 3, none⟩ v3).setCell ⟨g, 4, none⟩ v4).heap[f]? = W.heap[f]?) ∧
    (((((W.setCell ⟨g, 0, none⟩ v0).setCell ⟨g, 1, none⟩ v1).setCell ⟨g, 2, none⟩ v2).setCell ⟨g, 3, none⟩ v3).setCell ⟨g, 4, none⟩ v4).heap.size = W.heap.size := by
  obtain ⟨e0, e1, e2, e3, e4⟩ := st5_reads (o := 0) (v0 := v0) (v1 := v1) (v2 := v2) (v3 := v3) (v4 := v4) hk (by omega)
  have hb := st5_below (w := W) (g := g) (o := 0) (v0 := v0) (v1 := v1) (v2 := v2) (v3 := v3) (v4 := v4) B hB
  have hh := fun f (hf : f ≠ g) => st5_heap (w := W) (g := g) (o := 0) (v0 := v0) (v1 := v1) (v2 := v2) (v3 := v3) (v4 := v4) f hf
  have hs := st5_size (w := W) (g := g) (o := 0) (v0 := v0) (v1 := v1) (v2 := v2) (v3 := v3) (v4 := v4)
  simp only [st5, Nat.zero_add] at e0 e1 e2 e3 e4 hb hh hs
  exact ⟨e0, e1, e2, e3, e4, hb, hh, hs⟩
abbrev zV : Array Value := #[Value.int IntKind.i64 0, Value.int IntKind.i64 0, Value.int IntKind.i64 0, Value.string ⟨#[]⟩, Value.slice none 0 0]
set_option maxHeartbeats 1000000 in
theorem impl_copyVal : ∀ t : T, ∀ (a : Option Addr) (cap B : Nat) (w : World), R w B a cap t.l → Wf t → B ≤ w.heap.size → T.count t ≤ 1073741824 →
    Calls Tryz.prog 93 #[.agg (cV t a cap)] w fun e w' => ∃ a' cap', e = .returned (.agg (cV t a' cap')) ∧ Own w' w.heap.size w'.heap.size a' cap' t.l ∧ Below w.heap.size w w' := by
  intro t
  induction t using T.ind with
  | h k n x s l ih =>
    intro a cap B w hr hwf hB hct
    have IH := Lib.hid ih; clear ih
    simp only [cV, T.k, T.n, T.x, T.s, T.l] at hr ⊢
    simp only [T.count] at hct
    obtain ⟨hl1, hl2⟩ := hr.len
    have hlc := T.length_le_countL l
    have HR := Lib.hid hr; clear hr hwf
    go_enter Tryz.func93, Tryz.ntmps93
    go_wp2_with fail
    generalize hW : (w.alloc (Obj.cells #[Value.int IntKind.i64 k, Value.int IntKind.i64 n, Value.int IntKind.i64 x, Value.string s, Value.slice a l.length cap] 36)).alloc (Obj.cells zV 36) = W0
    have q1 : Is W0 w.heap.size 36 #[Value.int IntKind.i64 k, Value.int IntKind.i64 n, Value.int IntKind.i64 x, Value.string s, Value.slice a l.length cap] := by subst hW; exact (Is.new _ _ _).alloc _
    have q2 : Is W0 (w.heap.size + 1) 36 zV := by subst hW; exact Is.new2 _ _ _ _
    have H0 := Lib.hid (show Below w.heap.size w W0 from by subst hW; exact below2 _ _ _)
    have hs0 : W0.heap.size = w.heap.size + 2 := by subst hW; simp
    clear hW
    have HC := Lib.hid hct; clear hct
    go_loopw [3, 9, 5] (fun q i _ wr => ∃ (j : Nat) (ar : Option Addr) (cr : Nat), j ≤ l.length ∧ i = .int .i64 j ∧ q = .slice ar (l.take j).length cr ∧ App TV 5 36 True wr W0.heap.size wr.heap.size ar cr (l.take j) ∧ Below W0.heap.size W0 wr) (fun _ i _ _ => l.length - (intOf i).toNat)
    case atStart => exact ⟨0, none, 0, Nat.zero_le _, rfl, rfl, App.nil _ _ _, Below.refl _ _⟩
    case round =>
      obtain ⟨j, ar, cr, hj, rfl, rfl, happ, hb⟩ := hrel
      have hbs := hb.size
      have hlen : (l.take j).length = j := by rw [List.length_take]; omega
      by_cases hlt : j < l.length
      · obtain ⟨b, o, a2, cap2, rfl, hbl, d0, d1, d2, d3, d4, hwf, hq⟩ := ((HR.out.below H0.out hB).below hb (by omega)).get j hlt
        have hcj := T.count_get l j hlt
        have hlb : b < wr.heap.size := by omega
        have H1 := Lib.hid (below1 wr (.cells (cV l[j] a2 cap2) 36))
        have HWF := Lib.hid hwf; clear hwf
        have HA := Lib.hid happ; clear happ
        rw [hlen]
        go_wp2_with fail
        refine (IH.out l[j] (List.getElem_mem hlt) a2 cap2 B _ (hq.below H1.out (by omega)) HWF.out (by simp; omega) (by have := HC.out; omega)).mono ?_
        rintro e w2 ⟨a3, cap3, rfl, hown, hb2⟩
        obtain ⟨G, g1, g2, g3⟩ := hown
        have hs2 := hb2.size
        have hs3 : wr.heap.size < w2.heap.size := by simp at hs2; omega
        have HB2 := Lib.hid ((H1.out.trans (hb2.mono (by simp))))
        have HN := Lib.hid ((HA.out.below TV.elem HB2.out (Nat.le_refl _)).below TV.elem (below1 w2 (.cells (cV l[j] a3 cap3) 36)) (by omega))
        have HTV := Lib.hid (TV.box 36 g1 HWF.out (fun f hf => (g3 f hf).2.2.lt))
        have HG := Lib.hid (show ∀ f ∈ G, wr.heap.size ≤ f ∧ f < (w2.alloc (.cells (cV l[j] a3 cap3) 36)).heap.size ∧ Unf (w2.alloc (.cells (cV l[j] a3 cap3) 36)) f from fun f hf => ⟨by have := (g3 f hf).1; simp at this; omega, by have := (g3 f hf).2.1; simp; omega, (g3 f hf).2.2.alloc _⟩)
        clear hb2 hs2 g1 g3
        go_wp2_with (at_builtin; refine wpList_app1 TV.elem rfl _ _ 34 rfl (.agg zV) 64 Tryz.underlying34 info_Val rfl W0.heap.size wr.heap.size ar cr (l.take j) (by rw [hlen]; rfl) HN.out (by simp; omega) (by omega) w2.heap.size 0 1 l[j] G rfl HTV.out g2 HG.out (by rw [hlen]; unfold maxLen; omega) (by rw [hlen]; have := HC.out; omega) ?_; intro ar2 cr2 w3 happ3 hb3 _)
        go_roundw
        case rel => exact ⟨j + 1, ar2, cr2, by omega, by go_num, by rw [take_snoc l j hlt]; simp, by rw [take_snoc l j hlt]; exact happ3, (hb.trans ((HB2.out.trans ((below1 w2 _).mono (by omega))).mono (by omega))).trans hb3⟩
        case measure => simp [intOf]; omega
      · have hjj : l.length = j := by omega
        have HJ := Lib.hid (show l.take j = l from by rw [← hjj, List.take_length])
        have p1 := q1.below hb (by omega)
        have p2 := q2.below hb (by omega)
        have f1 := fun i => p1.frozen i
        have f2 := fun i => p2.frozen i
        obtain ⟨r0, r1, r2, r3, r4⟩ := p1.cells5
        obtain ⟨o0, o1, o2, o3, o4⟩ := p2.cells5
        have hlb : w.heap.size < wr.heap.size := by omega
        have hlb2 : w.heap.size + 1 < wr.heap.size := by omega
        rw [HJ.out] at happ ⊢
        clear hjj
        go_wp2_with fail
        have hk : Blk (wr.setCell ⟨w.heap.size, 4, none⟩ (.slice ar l.length cr)) (w.heap.size + 1) 36 5 := p2.blk.agree (heap_miss _ _ _ _ (by omega) _)
        obtain ⟨e0, e1, e2, e3, e4, hbel, hold, hsz⟩ := out5 hk (.int .i64 k) (.int .i64 n) (.int .i64 x) (.string s) (.slice ar l.length cr) w.heap.size (by omega)
        refine bodyPost_ret (v := .agg #[.int .i64 k, .int .i64 n, .int .i64 x, .string s, .slice ar l.length cr]) (by simp [results, Tryz.results93, go_sem, e0, e1, e2, e3, e4]) rfl ⟨ar, cr, rfl, ?_, ?_⟩
        · rw [hsz, size_set]
          exact ((Own.ow.2 happ.own).agree (fun f h1 h2 => (hold f (by omega)).trans (heap_miss _ _ _ _ (by omega) _))).more (by omega) (Nat.le_refl _)
        · exact (H0.out.trans (hb.mono (by omega))).trans ((Below.setCell (Below.refl _ _) (p := ⟨w.heap.size, 4, none⟩) (Nat.le_refl _) _).trans hbel)
set_option maxHeartbeats 1000000 in
theorem spec_l6Copy : ∀ t : T, ∀ (a : Option Addr) (cap B : Nat) (w : World), R w B a cap t.l → Wf t → B ≤ w.heap.size → T.count t ≤ 1073741824 →
    Calls Tryz.prog 98 #[.agg (cV t a cap)] w fun e w' => ∃ a' cap', e = .returned (.agg (cV t a' cap')) ∧ Own w' w.heap.size w'.heap.size a' cap' t.l ∧ Below w.heap.size w w' := by
  intro t
  induction t using T.ind with
  | h k n x s l ih =>
    intro a cap B w hr hwf hB hct
    have IH := Lib.hid ih; clear ih
    simp only [cV, T.k, T.n, T.x, T.s, T.l] at hr ⊢
    simp only [T.count] at hct
    obtain ⟨hl1, hl2⟩ := hr.len
    have hlc := T.length_le_countL l
    have HR := Lib.hid hr; clear hr hwf
    go_enter Tryz.func98, Tryz.ntmps98
    go_wp2_with fail
    generalize hW : (((w.alloc (Obj.cells #[Value.int IntKind.i64 k, Value.int IntKind.i64 n, Value.int IntKind.i64 x, Value.string s, Value.slice a l.length cap] 36)).alloc (Obj.cells zV 36)).alloc (Obj.cells #[Value.int IntKind.i64 k, Value.int IntKind.i64 n, Value.int IntKind.i64 x, Value.string s, Value.slice (some ⟨w.heap.size + 1 + 1 + 1, 0, none⟩) 0 0] 36)).alloc (Obj.cells #[] 36) = W0
    have q1 : Is W0 w.heap.size 36 #[Value.int IntKind.i64 k, Value.int IntKind.i64 n, Value.int IntKind.i64 x, Value.string s, Value.slice a l.length cap] := by subst hW; exact (((Is.new _ _ _).alloc _).alloc _).alloc _
    have q2 : Is W0 (w.heap.size + 1) 36 zV := by subst hW; exact ((Is.new2 _ _ _ _).alloc _).alloc _
    have q3 : Is W0 (w.heap.size + 1 + 1) 36 #[Value.int IntKind.i64 k, Value.int IntKind.i64 n, Value.int IntKind.i64 x, Value.string s, Value.slice (some ⟨w.heap.size + 1 + 1 + 1, 0, none⟩) 0 0] := by subst hW; exact (Is.new3 _ _ _ _ _).alloc _
    have hs0 : W0.heap.size = w.heap.size + 4 := by subst hW; simp
    have happ0 : App TV 5 36 True W0 (w.heap.size + 3) W0.heap.size (some ⟨w.heap.size + 1 + 1 + 1, 0, none⟩) 0 [] := by
      subst hW
      have := App.empty (E := TV) (n := 5) (e := 36) (nd := True) (((w.alloc (Obj.cells #[Value.int IntKind.i64 k, Value.int IntKind.i64 n, Value.int IntKind.i64 x, Value.string s, Value.slice a l.length cap] 36)).alloc (Obj.cells zV 36)).alloc (Obj.cells #[Value.int IntKind.i64 k, Value.int IntKind.i64 n, Value.int IntKind.i64 x, Value.string s, Value.slice (some ⟨w.heap.size + 1 + 1 + 1, 0, none⟩) 0 0] 36)) (w.heap.size + 3) (w.heap.size + 4) (by simp) (by simp)
      simp only [size_alloc] at this ⊢
      exact this.more (Nat.le_refl _) (by omega)
    have H0 := Lib.hid (show Below w.heap.size w W0 from by subst hW; exact ((below3 _ _ _ _)).alloc (by simp; omega) _)
    clear hW
    have HC := Lib.hid hct; clear hct
    go_loopw [4, 5] (fun i _ wr => ∃ (j : Nat) (ar : Option Addr) (cr : Nat), j ≤ l.length ∧ i = .int .i64 j ∧ Is wr (w.heap.size + 1 + 1) 36 #[Value.int IntKind.i64 k, Value.int IntKind.i64 n, Value.int IntKind.i64 x, Value.string s, Value.slice ar (l.take j).length cr] ∧ App TV 5 36 True wr (w.heap.size + 3) wr.heap.size ar cr (l.take j) ∧ Below (w.heap.size + 2) W0 wr) (fun i _ _ => l.length - (intOf i).toNat)
    case atStart => exact ⟨0, _, _, Nat.zero_le _, rfl, q3, happ0, Below.refl _ _⟩
    case round =>
      obtain ⟨j, ar, cr, hj, rfl, hout, happ, hb⟩ := hrel
      have hbs := hb.size
      have hlen : (l.take j).length = j := by rw [List.length_take]; omega
      have hlb1 : w.heap.size < wr.heap.size := by omega
      have hlb2 : w.heap.size + 1 + 1 < wr.heap.size := by omega
      by_cases hlt : j < l.length
      · obtain ⟨r0, r1, r2, r3, r4⟩ := (q1.below hb (by omega)).cells5
        obtain ⟨b, o, a2, cap2, rfl, hbl, d0, d1, d2, d3, d4, hwf, hq⟩ := ((HR.out.below H0.out hB).below hb (by omega)).get j hlt
        have hcj := T.count_get l j hlt
        have hlb : b < wr.heap.size := by omega
        have HWF := Lib.hid hwf; clear hwf
        have HA := Lib.hid happ; clear happ
        go_wp2_with fail
        refine (IH.out l[j] (List.getElem_mem hlt) a2 cap2 B _ hq HWF.out (by omega) (by have := HC.out; omega)).mono ?_
        rintro e w2 ⟨a3, cap3, rfl, hown, hb2⟩
        obtain ⟨G, g1, g2, g3⟩ := hown
        have hs2 := hb2.size
        have hlb3 : w.heap.size + 1 + 1 < w2.heap.size := by omega
        have hout2 := hout.below hb2 (by omega)
        have ff := fun i => hout2.frozen i
        obtain ⟨o0, o1, o2, o3, o4⟩ := hout2.cells5
        have H2 := Lib.hid (below1 w2 (.cells (cV l[j] a3 cap3) 36))
        have HB2 := Lib.hid hb2
        have HN := Lib.hid ((((HA.out.below TV.elem hb2 (Nat.le_refl _)).below TV.elem H2.out (by omega))).below TV.elem (below1 (w2.alloc (.cells (cV l[j] a3 cap3) 36)) (.cells (cV l[j] a3 cap3) 36)) (by simp; omega))
        have HTV := Lib.hid (TV.box (w := w2.alloc (.cells (cV l[j] a3 cap3) 36)) 36 (g1.agree (fun f hf => H2.out.block f (g3 f hf).2.2.lt)) HWF.out (fun f hf => by have := (g3 f hf).2.2.lt; simp; omega))
        have HG := Lib.hid (show ∀ f ∈ G, wr.heap.size ≤ f ∧ f < ((w2.alloc (.cells (cV l[j] a3 cap3) 36)).alloc (.cells (cV l[j] a3 cap3) 36)).heap.size ∧ Unf ((w2.alloc (.cells (cV l[j] a3 cap3) 36)).alloc (.cells (cV l[j] a3 cap3) 36)) f from fun f hf => ⟨by have := (g3 f hf).1; omega, by have := (g3 f hf).2.1; simp; omega, ((g3 f hf).2.2.alloc _).alloc _⟩)
        have hout3 := Lib.hid ((hout2.alloc (.cells (cV l[j] a3 cap3) 36)).alloc (.cells (cV l[j] a3 cap3) 36))
        clear hb2 g1 g3 hout2
        go_wp2_with (at_builtin; refine wpList_app1 TV.elem rfl _ _ 34 rfl (.agg zV) 64 Tryz.underlying34 info_Val rfl (w.heap.size + 3) wr.heap.size ar cr (l.take j) (by first | rfl | (rw [hlen]; rfl)) HN.out (by simp; omega) (by omega) (w2.heap.size + 1) 0 1 l[j] G (by first | rfl | simp) (by first | exact HTV.out | (have := HTV.out; simpa using this)) g2 HG.out (by rw [hlen]; unfold maxLen; omega) (by rw [hlen]; have := HC.out; omega) ?_; intro ar2 cr2 w3 happ3 hb3 _; have hout4 := hout3.out.below hb3 (by omega); have ff4 := (fun i => hout4.frozen i); obtain ⟨p0, p1, p2, p3, p4⟩ := hout4.cells5)
        go_roundw
        case rel =>
          have hlt3 := hout4.lt
          refine ⟨j + 1, ar2, cr2, by omega, by go_num, ?_, ?_, ?_⟩
          · rw [List.length_take]; exact hout4.set 4 _
          · rw [take_snoc l j hlt]
            rw [size_set]
            exact happ3.agree TV.elem (fun f hf _ => heap_miss _ _ _ _ (by omega) _)
          · exact (hb.trans ((HB2.out.trans ((H2.out.trans ((below1 _ _).mono (by simp))).mono (by omega))).mono (by omega))).trans ((hb3.mono (by omega)).trans (Below.setCell (Below.refl _ _) (p := ⟨w.heap.size + 1 + 1, 4, none⟩) (by simp) _))
        case measure => simp [intOf]; omega
      · have hjj : l.length = j := by omega
        have HJ := Lib.hid (show l.take j = l from by rw [← hjj, List.take_length])
        rw [HJ.out] at happ hout
        have p1 := q1.below hb (by omega)
        have p2 := q2.below hb (by omega)
        have f2 := fun i => p2.frozen i
        obtain ⟨r0, r1, r2, r3, r4⟩ := p1.cells5
        obtain ⟨o0, o1, o2, o3, o4⟩ := p2.cells5
        obtain ⟨t0, t1, t2, t3, t4⟩ := hout.cells5
        have hlb3 : w.heap.size + 1 < wr.heap.size := by omega
        clear hjj
        go_wp2_with fail
        obtain ⟨e0, e1, e2, e3, e4, hbel, hold, hsz⟩ := out5 p2.blk (.int .i64 k) (.int .i64 n) (.int .i64 x) (.string s) (.slice ar l.length cr) w.heap.size (by omega)
        refine bodyPost_ret (v := .agg #[.int .i64 k, .int .i64 n, .int .i64 x, .string s, .slice ar l.length cr]) (by simp [results, Tryz.results98, go_sem, e0, e1, e2, e3, e4]) rfl ⟨ar, cr, rfl, ?_, ?_⟩
        · rw [hsz]
          exact ((Own.ow.2 happ.own).agree (fun f h1 h2 => hold f (by omega))).more (by omega) (Nat.le_refl _)
        · exact (H0.out.trans (hb.mono (by omega))).trans hbel
end Go.Proofs.YtfbodhfdomdkpaaGreatDoor
namespace Go.Proofs.YtfbodhfdomdkpaaGreatDoor
open Go.ChangeShapes Go.WideShapes Go.ChangeAt Go.RowKit Go.Joins
set_option linter.unusedVariables false
set_option maxRecDepth 100000
/-- The place of the element that a step leads to; -1 if there is none. -/
def rawI (t : T) (s : St) : Int := if t.k = 10 then (if s.2 then 2 * s.1 else 2 * s.1 + 1) else s.1
def okI (t : T) (s : St) : Prop := 0 ≤ s.1 ∧ (s.2 = true → t.k = 10) ∧ rawI t s < t.l.length
instance (t : T) (s : St) : Decidable (okI t s) := by unfold okI; exact inferInstance
def idxT (t : T) (s : St) : Int := if okI t s then rawI t s else -1
theorem idxT_ok {t : T} {s : St} (h : okI t s) : idxT t s = rawI t s := if_pos h
theorem idxT_no {t : T} {s : St} (h : ¬ okI t s) : idxT t s = -1 := if_neg h
theorem rawI_nonneg {t : T} {s : St} (h : okI t s) : 0 ≤ rawI t s := by
  unfold rawI; have := h.1; split
  · split <;> omega
  · exact this
def zT : T := .mk 0 0 0 ⟨#[]⟩ []
def atT : T → List St → Option T
  | t, [] => some t
  | t, s :: r => if h : okI t s then atT (t.l.getD (rawI t s).toNat zT) r else none
theorem atT_drop_ok {x : T} {p : List St} {j : Nat} (hj : j < p.length) (h : okI x p[j]) : atT x (p.drop j) = atT (x.l.getD (rawI x p[j]).toNat zT) (p.drop (j + 1)) := by
  rw [List.drop_eq_getElem_cons hj, atT, dif_pos h]
theorem atT_drop_no {x : T} {p : List St} {j : Nat} (hj : j < p.length) (h : ¬ okI x p[j]) : atT x (p.drop j) = none := by
  rw [List.drop_eq_getElem_cons hj, atT, dif_neg h]
theorem atT_end (x : T) (p : List St) : atT x (p.drop p.length) = some x := by rw [List.drop_length, atT]
set_option maxHeartbeats 2000000 in
theorem spec_l8Place (t : T) (s : St) (a : Option Addr) (cap : Nat) (w : World) (hi : I64 s.1) (hl : t.l.length ≤ 1073741824) :
    Calls Tryz.prog 205 #[.agg (cV t a cap), .agg #[.int .i64 s.1, .bool s.2]] w fun e w' => e = .returned (.int .i64 (idxT t s)) ∧ Below w.heap.size w w' := by
  obtain ⟨k, n, x, st, l⟩ := t
  obtain ⟨p, q⟩ := s
  obtain ⟨hi1, hi2⟩ := hi
  simp only [cV, T.k, T.n, T.x, T.s, T.l] at hl hi1 hi2 ⊢
  have H2 := Lib.hid (below2 w (.cells #[Value.int IntKind.i64 k, Value.int IntKind.i64 n, Value.int IntKind.i64 x, Value.string st, Value.slice a l.length cap] 36) (.cells #[.int .i64 p, .bool q] 79))
  by_cases hk : k = 10
  · subst hk
    by_cases h1 : p < 0
    · have HI := Lib.hid (show idxT (.mk 10 n x st l) (p, q) = -1 from idxT_no (fun h => by have := h.1; simp at this; omega))
      go_enter Tryz.func205, Tryz.ntmps205
      go_wp2
      all_goals (go_ret; exact ⟨ret_i HI.out.symm, H2.out⟩)
    by_cases h2 : (l.length : Int) < p
    · have HI := Lib.hid (show idxT (.mk 10 n x st l) (p, q) = -1 from idxT_no (fun h => by
        have := h.2.2; unfold rawI at this; simp only [T.k, T.l] at this; cases q <;> simp at this <;> omega))
      go_enter Tryz.func205, Tryz.ntmps205
      go_wp2
      all_goals (go_ret; exact ⟨ret_i HI.out.symm, H2.out⟩)
    cases q
    · by_cases h3 : 2 * p + 1 < l.length
      · have h4 : 2 * p + 1 ≤ (l.length : Int) - 1 := by omega
        have HI := Lib.hid (show idxT (.mk 10 n x st l) (p, false) = 2 * p + 1 from by
          have h : rawI (.mk 10 n x st l) (p, false) = 2 * p + 1 := by unfold rawI; simp [T.k]
          rw [idxT_ok ⟨by simp; omega, by simp, by rw [h]; exact h3⟩, h])
        go_enter Tryz.func205, Tryz.ntmps205
        go_wp2
        all_goals (go_ret; exact ⟨ret_i HI.out.symm, H2.out⟩)
      · have h4 : ¬ (2 * p + 1 ≤ (l.length : Int) - 1) := by omega
        have HI := Lib.hid (show idxT (.mk 10 n x st l) (p, false) = -1 from by
          have h : rawI (.mk 10 n x st l) (p, false) = 2 * p + 1 := by unfold rawI; simp [T.k]
          exact idxT_no (fun g => h3 (by have := g.2.2; rw [h] at this; exact this)))
        go_enter Tryz.func205, Tryz.ntmps205
        go_wp2
        all_goals (go_ret; exact ⟨ret_i HI.out.symm, H2.out⟩)
    · by_cases h3 : 2 * p < l.length
      · have h4 : 2 * p ≤ (l.length : Int) - 1 := by omega
        have HI := Lib.hid (show idxT (.mk 10 n x st l) (p, true) = 2 * p from by
          have h : rawI (.mk 10 n x st l) (p, true) = 2 * p := by unfold rawI; simp [T.k]
          rw [idxT_ok ⟨by simp; omega, by simp [T.k], by rw [h]; exact h3⟩, h])
        go_enter Tryz.func205, Tryz.ntmps205
        go_wp2
        all_goals (go_ret; exact ⟨ret_i HI.out.symm, H2.out⟩)
      · have h4 : ¬ (2 * p ≤ (l.length : Int) - 1) := by omega
        have HI := Lib.hid (show idxT (.mk 10 n x st l) (p, true) = -1 from by
          have h : rawI (.mk 10 n x st l) (p, true) = 2 * p := by unfold rawI; simp [T.k]
          exact idxT_no (fun g => h3 (by have := g.2.2; rw [h] at this; exact this)))
        go_enter Tryz.func205, Tryz.ntmps205
        go_wp2
        all_goals (go_ret; exact ⟨ret_i HI.out.symm, H2.out⟩)
  · have hkb : (k == 10) = false := by simp [hk]
    cases q
    · by_cases h1 : p < 0
      · have HI := Lib.hid (show idxT (.mk k n x st l) (p, false) = -1 from idxT_no (fun h => by have := h.1; simp at this; omega))
        clear hk
        go_enter Tryz.func205, Tryz.ntmps205
        go_wp2
        all_goals (go_ret; exact ⟨ret_i HI.out.symm, H2.out⟩)
      by_cases h3 : p < l.length
      · have h4 : p ≤ (l.length : Int) - 1 := by omega
        have HI := Lib.hid (show idxT (.mk k n x st l) (p, false) = p from by
          have h : rawI (.mk k n x st l) (p, false) = p := by unfold rawI; simp [T.k, hk]
          rw [idxT_ok ⟨by simp; omega, by simp, by rw [h]; exact h3⟩, h])
        clear hk
        go_enter Tryz.func205, Tryz.ntmps205
        go_wp2
        all_goals (go_ret; exact ⟨ret_i HI.out.symm, H2.out⟩)
      · have h4 : ¬ (p ≤ (l.length : Int) - 1) := by omega
        have HI := Lib.hid (show idxT (.mk k n x st l) (p, false) = -1 from by
          have h : rawI (.mk k n x st l) (p, false) = p := by unfold rawI; simp [T.k, hk]
          exact idxT_no (fun g => h3 (by have := g.2.2; rw [h] at this; exact this)))
        clear hk
        go_enter Tryz.func205, Tryz.ntmps205
        go_wp2
        all_goals (go_ret; exact ⟨ret_i HI.out.symm, H2.out⟩)
    · have HI := Lib.hid (show idxT (.mk k n x st l) (p, true) = -1 from idxT_no (fun h => hk (h.2.1 rfl)))
      clear hk
      go_enter Tryz.func205, Tryz.ntmps205
      go_wp2
      all_goals (go_ret; exact ⟨ret_i HI.out.symm, H2.out⟩)
set_option maxHeartbeats 2000000 in
theorem impl_index (t : T) (s : St) (a : Option Addr) (cap : Nat) (w : World) (hi : I64 s.1) (hl : t.l.length ≤ 1073741824) :
    Calls Tryz.prog 139 #[.agg #[.int .i64 s.1, .bool s.2], .agg (cV t a cap)] w fun e w' => e = .returned (.int .i64 (idxT t s)) ∧ Below w.heap.size w w' := by
  obtain ⟨k, n, x, st, l⟩ := t
  obtain ⟨p, q⟩ := s
  obtain ⟨hi1, hi2⟩ := hi
  simp only [cV, T.k, T.n, T.x, T.s, T.l] at hl hi1 hi2 ⊢
  have H2 := Lib.hid (below2 w (.cells #[.int .i64 p, .bool q] 79) (.cells #[Value.int IntKind.i64 k, Value.int IntKind.i64 n, Value.int IntKind.i64 x, Value.string st, Value.slice a l.length cap] 36))
  by_cases hk : k = 10
  · subst hk
    by_cases h1 : p < 0
    · have HI := Lib.hid (show idxT (.mk 10 n x st l) (p, q) = -1 from idxT_no (fun h => by have := h.1; simp at this; omega))
      go_enter Tryz.func139, Tryz.ntmps139
      go_wp2
      all_goals (go_ret; exact ⟨ret_i HI.out.symm, H2.out⟩)
    by_cases h2 : (l.length : Int) < p
    · have HI := Lib.hid (show idxT (.mk 10 n x st l) (p, q) = -1 from idxT_no (fun h => by
        have := h.2.2; unfold rawI at this; simp only [T.k, T.l] at this; cases q <;> simp at this <;> omega))
      go_enter Tryz.func139, Tryz.ntmps139
      go_wp2
      all_goals (go_ret; exact ⟨ret_i HI.out.symm, H2.out⟩)
    cases q
    · by_cases h3 : 2 * p + 1 < l.length
      · have h4 : 2 * p + 1 ≤ (l.length : Int) - 1 := by omega
        have HI := Lib.hid (show idxT (.mk 10 n x st l) (p, false) = 2 * p + 1 from by
          have h : rawI (.mk 10 n x st l) (p, false) = 2 * p + 1 := by unfold rawI; simp [T.k]
          rw [idxT_ok ⟨by simp; omega, by simp, by rw [h]; exact h3⟩, h])
        go_enter Tryz.func139, Tryz.ntmps139
        go_wp2
        all_goals (go_ret; exact ⟨ret_i HI.out.symm, H2.out⟩)
      · have h4 : ¬ (2 * p + 1 ≤ (l.length : Int) - 1) := by omega
        have HI := Lib.hid (show idxT (.mk 10 n x st l) (p, false) = -1 from by
          have h : rawI (.mk 10 n x st l) (p, false) = 2 * p + 1 := by unfold rawI; simp [T.k]
          exact idxT_no (fun g => h3 (by have := g.2.2; rw [h] at this; exact this)))
        go_enter Tryz.func139, Tryz.ntmps139
        go_wp2
        all_goals (go_ret; exact ⟨ret_i HI.out.symm, H2.out⟩)
    · by_cases h3 : 2 * p < l.length
      · have h4 : 2 * p ≤ (l.length : Int) - 1 := by omega
        have HI := Lib.hid (show idxT (.mk 10 n x st l) (p, true) = 2 * p from by
          have h : rawI (.mk 10 n x st l) (p, true) = 2 * p := by unfold rawI; simp [T.k]
          rw [idxT_ok ⟨by simp; omega, by simp [T.k], by rw [h]; exact h3⟩, h])
        go_enter Tryz.func139, Tryz.ntmps139
        go_wp2
        all_goals (go_ret; exact ⟨ret_i HI.out.symm, H2.out⟩)
      · have h4 : ¬ (2 * p ≤ (l.length : Int) - 1) := by omega
        have HI := Lib.hid (show idxT (.mk 10 n x st l) (p, true) = -1 from by
          have h : rawI (.mk 10 n x st l) (p, true) = 2 * p := by unfold rawI; simp [T.k]
          exact idxT_no (fun g => h3 (by have := g.2.2; rw [h] at this; exact this)))
        go_enter Tryz.func139, Tryz.ntmps139
        go_wp2
        all_goals (go_ret; exact ⟨ret_i HI.out.symm, H2.out⟩)
  · have hkb : (k == 10) = false := by simp [hk]
    cases q
    · by_cases h1 : p < 0
      · have HI := Lib.hid (show idxT (.mk k n x st l) (p, false) = -1 from idxT_no (fun h => by have := h.1; simp at this; omega))
        clear hk
        go_enter Tryz.func139, Tryz.ntmps139
        go_wp2
        all_goals (go_ret; exact ⟨ret_i HI.out.symm, H2.out⟩)
      by_cases h3 : p < l.length
      · have h4 : p ≤ (l.length : Int) - 1 := by omega
        have HI := Lib.hid (show idxT (.mk k n x st l) (p, false) = p from by
          have h : rawI (.mk k n x st l) (p, false) = p := by unfold rawI; simp [T.k, hk]
          rw [idxT_ok ⟨by simp; omega, by simp, by rw [h]; exact h3⟩, h])
        clear hk
        go_enter Tryz.func139, Tryz.ntmps139
        go_wp2
        all_goals (go_ret; exact ⟨ret_i HI.out.symm, H2.out⟩)
      · have h4 : ¬ (p ≤ (l.length : Int) - 1) := by omega
        have HI := Lib.hid (show idxT (.mk k n x st l) (p, false) = -1 from by
          have h : rawI (.mk k n x st l) (p, false) = p := by unfold rawI; simp [T.k, hk]
          exact idxT_no (fun g => h3 (by have := g.2.2; rw [h] at this; exact this)))
        clear hk
        go_enter Tryz.func139, Tryz.ntmps139
        go_wp2
        all_goals (go_ret; exact ⟨ret_i HI.out.symm, H2.out⟩)
    · have HI := Lib.hid (show idxT (.mk k n x st l) (p, true) = -1 from idxT_no (fun h => hk (h.2.1 rfl)))
      clear hk
      go_enter Tryz.func139, Tryz.ntmps139
      go_wp2
      all_goals (go_ret; exact ⟨ret_i HI.out.symm, H2.out⟩)
end Go.Proofs.YtfbodhfdomdkpaaGreatDoor
