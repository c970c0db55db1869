/- Texts of this proof, merged: Same2, Num, TextF, ValF. No condition beyond what each theorem states. -/
import Derived.Test.YtggdenkmohnijaaGreatDoorZH3
import Derived.Lib.ItoaNum
import Derived.Lib.AppendIntMem
import Derived.Test.YtggdenkmohnijaaGreatDoorShelf
import Derived.Lib.ValidLaws
import Derived.Lib.ValidAsc
import Derived.Lib.ItoaLen
set_option linter.unusedSimpArgs false
set_option linter.unnecessarySimpa false
namespace Go.Proofs.YtggdenkmohnijaaGreatDoor
open Go.ChangeShapes Go.WideShapes Go.ChangeAt Go.RowKit Go.Joins
set_option linter.unusedVariables false
set_option maxRecDepth 100000
mutual
def sameT : T → T → Bool
 | .mk k n x s l, .mk k' n' x' s' l' => decide (k = k') && decide (n = n') && decide (x = x') && decide (s.data = s'.data) && sameTs l l'
def sameTs : List T → List T → Bool
 | [], [] => true
 | a :: r, b :: q => sameT a b && sameTs r q
 | [], _ :: _ => false
 | _ :: _, [] => false
end
theorem sameT_iff : ∀ a b : T, sameT a b = true ↔ a = b := by
 intro a
 induction a using T.ind with
 | h k n x s l ih =>
  intro b
  obtain ⟨k', n', x', s', l'⟩ := b
  have key : ∀ (r q : List T), (∀ t ∈ r, t ∈ l) → (sameTs r q = true ↔ r = q) := by
   intro r
   induction r with
   | nil => intro q _; cases q <;> simp [sameTs]
   | cons t r ihr =>
    intro q hm
    cases q with
    | nil => simp [sameTs]
    | cons u q =>
     rw [sameTs, Bool.and_eq_true, ih t (hm t (by simp)) u, ihr q (fun v hv => hm v (by simp [hv]))]
     simp
  rw [sameT]
  simp only [Bool.and_eq_true, decide_eq_true_eq, key l l' (fun _ h => h), T.mk.injEq]
  constructor
  ·rintro ⟨⟨⟨⟨h1, h2⟩, h3⟩, h4⟩, h5⟩
   refine ⟨h1, h2, h3, ?_, h5⟩
   cases s; cases s'; simp at h4; rw [h4]
  ·rintro ⟨h1, h2, h3, h4, h5⟩; exact ⟨⟨⟨⟨h1, h2⟩, h3⟩, by rw [h4]⟩, h5⟩
theorem sameT_true {a b : T} (h : a = b) : sameT a b = true := (sameT_iff a b).2 h
theorem sameT_false {a b : T} (h : ¬ a = b) : sameT a b = false := by
 rw [Bool.eq_false_iff]; exact fun e => h ((sameT_iff a b).1 e)
theorem sameTs_iff (r q : List T) : sameTs r q = true ↔ r = q := by
 have := sameT_iff (.mk 0 0 0 ⟨#[]⟩ r) (.mk 0 0 0 ⟨#[]⟩ q)
 rw [sameT] at this
 simpa using this
theorem sameTs_true {a b : List T} (h : a = b) : sameTs a b = true := (sameTs_iff a b).2 h
theorem sameTs_false {a b : List T} (h : ¬ a = b) : sameTs a b = false := by
 rw [Bool.eq_false_iff]; exact fun e => h ((sameTs_iff a b).1 e)
set_option maxHeartbeats 1000000 in
theorem spec_SameVal : ∀ t u : T, ∀ (a a' : Option Addr) (cap cap' B : Nat) (w : World), R w B a cap t.l → R w B a' cap' u.l → B ≤ w.heap.size →
  Calls Tryz.prog 176 #[.agg (cV t a cap), .agg (cV u a' cap')] w fun e w' => e = .returned (.bool (sameT t u)) ∧ Below w.heap.size w w' := by
 intro t
 induction t using T.ind with
 | h k n x s l ih =>
  intro u a a' cap cap' B w hr hr' hB
  have IH := Lib.hid ih; clear ih
  obtain ⟨k', n', x', s', l'⟩ := u
  simp only [cV, T.k, T.n, T.x, T.s, T.l] at hr hr' ⊢
  obtain ⟨hl1, hl2⟩ := hr.len
  obtain ⟨hm1, hm2⟩ := hr'.len
  have HR := Lib.hid hr; clear hr
  have HR' := Lib.hid hr'; clear hr'
  have H3 := Lib.hid (below2 w (.cells #[Value.int IntKind.i64 k, Value.int IntKind.i64 n, Value.int IntKind.i64 x, Value.string s, Value.slice a l.length cap] 26) (.cells #[Value.int IntKind.i64 k', Value.int IntKind.i64 n', Value.int IntKind.i64 x', Value.string s', Value.slice a' l'.length cap'] 26))
  by_cases hk : k = k'
  case neg =>
   have h1 : (k == k') = false := by simp [hk]
   have h2 : (k != k') = true := by simp [hk]
   have HE := Lib.hid (show sameT (T.mk k n x s l) (T.mk k' n' x' s' l') = false from sameT_false (fun e => hk (by injection e)))
   clear hk
   go_enter Tryz.func176, Tryz.ntmps176
   go_wp2_with fail
   go_ret
   exact ⟨ret_b HE.out.symm, H3.out⟩
  subst hk
  by_cases hk : n = n'
  case neg =>
   have h1 : (n == n') = false := by simp [hk]
   have h2 : (n != n') = true := by simp [hk]
   have HE := Lib.hid (show sameT (T.mk k n x s l) (T.mk k n' x' s' l') = false from sameT_false (fun e => hk (by injection e)))
   clear hk
   go_enter Tryz.func176, Tryz.ntmps176
   go_wp2_with fail
   go_ret
   exact ⟨ret_b HE.out.symm, H3.out⟩
  subst hk
  by_cases hk : x = x'
  case neg =>
   have h1 : (x == x') = false := by simp [hk]
   have h2 : (x != x') = true := by simp [hk]
   have HE := Lib.hid (show sameT (T.mk k n x s l) (T.mk k n x' s' l') = false from sameT_false (fun e => hk (by injection e)))
   clear hk
   go_enter Tryz.func176, Tryz.ntmps176
   go_wp2_with fail
   go_ret
   exact ⟨ret_b HE.out.symm, H3.out⟩
  subst hk
  by_cases hk : s = s'
  case neg =>
   have h1 := bytes_ne hk
   have h2 : (s.toList != s'.toList) = true := by simp [bne, h1]
   have HE := Lib.hid (show sameT (T.mk k n x s l) (T.mk k n x s' l') = false from sameT_false (fun e => hk (by injection e)))
   clear hk
   go_enter Tryz.func176, Tryz.ntmps176
   go_wp2_with fail
   go_ret
   exact ⟨ret_b HE.out.symm, H3.out⟩
  subst hk
  by_cases hk : l.length = l'.length
  case neg =>
   have h1 : ((l.length : Int) == l'.length) = false := by rw [beq_eq_false_iff_ne]; omega
   have h2 : ((l.length : Int) != l'.length) = true := by simp [bne, h1]
   have HE := Lib.hid (show sameT (T.mk k n x s l) (T.mk k n x s l') = false from sameT_false (fun e => hk (by injection e with _ _ _ _ e5; rw [e5])))
   clear hk
   go_enter Tryz.func176, Tryz.ntmps176
   go_wp2_with fail
   go_ret
   exact ⟨ret_b HE.out.symm, H3.out⟩
  have h1 : ((l.length : Int) == l'.length) = true := by simp [hk]
  have h2 : ((l.length : Int) != l'.length) = false := by simp [hk]
  have HL := Lib.hid hk; clear hk
  have q1 : Is ((w.alloc (.cells #[Value.int IntKind.i64 k, Value.int IntKind.i64 n, Value.int IntKind.i64 x, Value.string s, Value.slice a l.length cap] 26)).alloc (.cells #[Value.int IntKind.i64 k, Value.int IntKind.i64 n, Value.int IntKind.i64 x, Value.string s, Value.slice a' l'.length cap'] 26)) w.heap.size 26 _ := (Is.new _ _ _).alloc _
  have q2 := Is.new2 w (.cells #[Value.int IntKind.i64 k, Value.int IntKind.i64 n, Value.int IntKind.i64 x, Value.string s, Value.slice a l.length cap] 26) #[Value.int IntKind.i64 k, Value.int IntKind.i64 n, Value.int IntKind.i64 x, Value.string s, Value.slice a' l'.length cap'] 26
  have hs : w.heap.size + 2 ≤ ((w.alloc (.cells #[Value.int IntKind.i64 k, Value.int IntKind.i64 n, Value.int IntKind.i64 x, Value.string s, Value.slice a l.length cap] 26)).alloc (.cells #[Value.int IntKind.i64 k, Value.int IntKind.i64 n, Value.int IntKind.i64 x, Value.string s, Value.slice a' l'.length cap'] 26)).heap.size := by simp
  go_enter Tryz.func176, Tryz.ntmps176
  go_wp2_with fail
  generalize hW : (w.alloc (.cells #[Value.int IntKind.i64 k, Value.int IntKind.i64 n, Value.int IntKind.i64 x, Value.string s, Value.slice a l.length cap] 26)).alloc (.cells #[Value.int IntKind.i64 k, Value.int IntKind.i64 n, Value.int IntKind.i64 x, Value.string s, Value.slice a' l'.length cap'] 26) = W0 at q1 q2 H3 hs ⊢
  clear hW
  go_loopw [5] (fun i wr => ∃ (j : Nat), j ≤ l.length ∧ i = .int .i64 j ∧ Hid (l.take j = l'.take j) ∧ Below W0.heap.size W0 wr) (fun i _ => l.length - (intOf i).toNat)
  case atStart => exact ⟨0, Nat.zero_le _, rfl, rfl, Below.refl _ _⟩
  case round =>
   obtain ⟨j, hj, rfl, HP, hb⟩ := hrel
   have hbs := hb.size
   obtain ⟨c0, c1, c2, c3, c4⟩ := (q1.below hb (by omega)).cells5
   obtain ⟨e0, e1, e2, e3, e4⟩ := (q2.below hb (by omega)).cells5
   by_cases hlt : j < l.length
   ·have hlt' : j < l'.length := by have := HL.out; omega
    have hR := (HR.out.below H3.out hB).below hb (by omega)
    have hR' := (HR'.out.below H3.out hB).below hb (by omega)
    obtain ⟨b, o, a2, cap2, rfl, hbl, d0, d1, d2, d3, d4, hwf, hq⟩ := hR.get j hlt
    obtain ⟨b', o', a3, cap3, rfl, hbl', d0', d1', d2', d3', d4', hwf', hq'⟩ := hR'.get j hlt'
    have l1 : b < wr.heap.size := by omega
    have l2 : b' < wr.heap.size := by omega
    have l3 : w.heap.size < wr.heap.size := by omega
    have l4 : w.heap.size + 1 < wr.heap.size := by omega
    clear hR hR' hwf hwf'
    go_wp2_with fail
    go_region_held3 (fun w' => (∀ b o, b < wr.heap.size → w'.cell? ⟨b, o, none⟩ = wr.cell? ⟨b, o, none⟩) ∧ Below (wr.heap.size) wr w') (first | exact kpZ | assumption | exact kpD (by assumption) | exact kpB (by assumption) (by assumption) | exact kpC (by assumption) (by assumption) | exact kpA (by assumption)) (first | (go_at_call 176; refine (IH.out l[j] (List.getElem_mem hlt) l'[j] _ _ _ _ B _ ?_ ?_ (by have := (‹_ ∧ Below (wr.heap.size) wr _›).2.size; omega)).mono ?_; (exact hq.below (‹_ ∧ Below (wr.heap.size) wr _›).2 (by omega)); (exact hq'.below (‹_ ∧ Below (wr.heap.size) wr _›).2 (by omega)); rintro e w2 ⟨rfl, hb2⟩))
    have K := Lib.hid (hb.trans ((‹_ ∧ Below (wr.heap.size) wr _›).2.mono hbs))
    clear hb2
    by_cases he : l[j] = l'[j]
    ·have HE := Lib.hid (show l.take (j + 1) = l'.take (j + 1) from by rw [take_snoc l j hlt, take_snoc l' j hlt', HP.out, he])
     have hd := sameT_true he
     clear he
     rw [hd]
     go_wp2_with fail
     go_roundw
     case rel => exact ⟨j + 1, by omega, by go_num, HE.out, K.out⟩
     case measure => simp [intOf]; omega
    ·have HE := Lib.hid (show sameT (T.mk k n x s l) (T.mk k n x s l') = false from sameT_false (fun e => he (by injection e with _ _ _ _ e5; subst e5; rfl)))
     have hd := sameT_false he
     clear he
     rw [hd]
     go_wp2_with fail
     go_ret
     exact ⟨ret_b HE.out.symm, H3.out.trans (K.out.mono (by omega))⟩
   ·have HJ := Lib.hid (show sameT (T.mk k n x s l) (T.mk k n x s l') = true from sameT_true (by have := HP.out; have h2 := HL.out; rw [List.take_of_length_le (by omega), List.take_of_length_le (by omega)] at this; rw [this]))
    go_wp2_with fail
    go_ret
    exact ⟨ret_b HJ.out.symm, H3.out.trans (hb.mono (by omega))⟩
set_option maxHeartbeats 1000000 in
theorem equalFuncVal (l l' : List T) (IH : Hid (∀ t ∈ l, ∀ u : T, ∀ (a a' : Option Addr) (cap cap' B : Nat) (w : World), R w B a cap t.l → R w B a' cap' u.l → B ≤ w.heap.size →
  Calls Tryz.prog 215 #[.agg (cV t a cap), .agg (cV u a' cap')] w fun e w' => e = .returned (.bool (sameT t u)) ∧ Below w.heap.size w w')) (a a' : Option Addr) (cap cap' B : Nat) (w : World) (hr : R w B a cap l) (hr' : R w B a' cap' l') (hB : B ≤ w.heap.size) :
  Calls Tryz.prog 253 #[.slice a l.length cap, .slice a' l'.length cap', .func (.func 215) #[] #[]] w fun e w' => e = .returned (.bool (sameTs l l')) ∧ Below w.heap.size w w' := by
 obtain ⟨hl1, hl2⟩ := hr.len
 obtain ⟨hm1, hm2⟩ := hr'.len
 have HR := Lib.hid hr; clear hr
 have HR' := Lib.hid hr'; clear hr'
 by_cases hpq : l.length = l'.length
 ·have hn : ((l.length : Int) == l'.length) = true := by simp [hpq]
  have hn2 : ((l.length : Int) != l'.length) = false := by simp [hpq]
  have HL := Lib.hid hpq; clear hpq
  go_enter Tryz.func253, Tryz.ntmps253
  go_wp2_with fail
  go_loopw [17, 7, 8, 9] (fun i _ _ _ wr => ∃ (j : Nat), j ≤ l.length ∧ i = .int .i64 j ∧ Hid (l.take j = l'.take j) ∧ Below w.heap.size w wr) (fun i _ _ _ _ => l.length - (intOf i).toNat)
  case atStart => exact ⟨0, Nat.zero_le _, rfl, rfl, Below.refl _ _⟩
  case round =>
   obtain ⟨j, hj, rfl, HP, hb⟩ := hrel
   by_cases hlt : j < l.length
   ·have hlt' : j < l'.length := by have := HL.out; omega
    obtain ⟨b, o, a2, cap2, rfl, hbl, d0, d1, d2, d3, d4, hwf, hq⟩ := (HR.out.below hb hB).get j hlt
    obtain ⟨b', o', a3, cap3, rfl, hbl', d0', d1', d2', d3', d4', hwf', hq'⟩ := (HR'.out.below hb hB).get j hlt'
    have hbs := hb.size
    have l1 : b < wr.heap.size := by omega
    have l2 : b' < wr.heap.size := by omega
    have H3 := Lib.hid (below2 wr (.cells (cV l[j] a2 cap2) 26) (.cells (cV l'[j] a3 cap3) 26))
    clear hwf hwf'
    go_wp2_with fail
    refine (IH.out l[j] (List.getElem_mem hlt) l'[j] a2 a3 cap2 cap3 B _ (hq.below H3.out (by omega)) (hq'.below H3.out (by omega)) (by simp; omega)).mono ?_
    rintro e w2 ⟨rfl, hb2⟩
    have K := Lib.hid (hb.trans ((below_step H3.out hb2 (by simp; omega)).mono hbs))
    clear hb2
    by_cases he : l[j] = l'[j]
    ·have HE := Lib.hid (show l.take (j + 1) = l'.take (j + 1) from by rw [take_snoc l j hlt, take_snoc l' j hlt', HP.out, he])
     have hd := sameT_true he
     clear he
     rw [hd]
     go_wp2_with fail
     go_roundw
     case rel => exact ⟨j + 1, by omega, by go_num, HE.out, K.out⟩
     case measure => simp [intOf]; omega
    ·have HE := Lib.hid (show sameTs l l' = false from sameTs_false (fun e => he (by subst e; rfl)))
     have hd := sameT_false he
     clear he
     rw [hd]
     go_wp2_with fail
     go_ret
     exact ⟨ret_b HE.out.symm, K.out⟩
   ·have HJ := Lib.hid (show sameTs l l' = true from sameTs_true (by have := HP.out; have h2 := HL.out; rwa [List.take_of_length_le (by omega), List.take_of_length_le (by omega)] at this))
    go_wp2_with fail
    go_ret
    exact ⟨ret_b HJ.out.symm, hb⟩
 ·have hn : ((l.length : Int) == l'.length) = false := by rw [beq_eq_false_iff_ne]; omega
  have HL := Lib.hid (show sameTs l l' = false from sameTs_false (fun e => hpq (by rw [e]))); clear hpq
  go_enter Tryz.func253, Tryz.ntmps253
  go_wp2_with fail
  go_ret
  exact ⟨ret_b HL.out.symm, Below.refl _ _⟩
set_option maxHeartbeats 1000000 in
theorem impl_SameVal : ∀ t u : T, ∀ (a a' : Option Addr) (cap cap' B : Nat) (w : World), R w B a cap t.l → R w B a' cap' u.l → B ≤ w.heap.size →
  Calls Tryz.prog 215 #[.agg (cV t a cap), .agg (cV u a' cap')] w fun e w' => e = .returned (.bool (sameT t u)) ∧ Below w.heap.size w w' := by
 intro t
 induction t using T.ind with
 | h k n x s l ih =>
  intro u a a' cap cap' B w hr hr' hB
  have IH := Lib.hid ih; clear ih
  obtain ⟨k', n', x', s', l'⟩ := u
  simp only [cV, T.k, T.n, T.x, T.s, T.l] at hr hr' ⊢
  obtain ⟨hl1, hl2⟩ := hr.len
  obtain ⟨hm1, hm2⟩ := hr'.len
  have HR := Lib.hid hr; clear hr
  have HR' := Lib.hid hr'; clear hr'
  have H3 := Lib.hid (below2 w (.cells #[Value.int IntKind.i64 k, Value.int IntKind.i64 n, Value.int IntKind.i64 x, Value.string s, Value.slice a l.length cap] 26) (.cells #[Value.int IntKind.i64 k', Value.int IntKind.i64 n', Value.int IntKind.i64 x', Value.string s', Value.slice a' l'.length cap'] 26))
  by_cases hk : k = k'
  case neg =>
   have h1 : (k == k') = false := by simp [hk]
   have HE := Lib.hid (show sameT (T.mk k n x s l) (T.mk k' n' x' s' l') = false from sameT_false (fun e => hk (by injection e)))
   clear hk
   go_enter Tryz.func215, Tryz.ntmps215
   go_wp2_with fail
   go_ret
   exact ⟨ret_b HE.out.symm, H3.out⟩
  subst hk
  by_cases hk : n = n'
  case neg =>
   have h1 : (n == n') = false := by simp [hk]
   have HE := Lib.hid (show sameT (T.mk k n x s l) (T.mk k n' x' s' l') = false from sameT_false (fun e => hk (by injection e)))
   clear hk
   go_enter Tryz.func215, Tryz.ntmps215
   go_wp2_with fail
   go_ret
   exact ⟨ret_b HE.out.symm, H3.out⟩
  subst hk
  by_cases hk : x = x'
  case neg =>
   have h1 : (x == x') = false := by simp [hk]
   have HE := Lib.hid (show sameT (T.mk k n x s l) (T.mk k n x' s' l') = false from sameT_false (fun e => hk (by injection e)))
   clear hk
   go_enter Tryz.func215, Tryz.ntmps215
   go_wp2_with fail
   go_ret
   exact ⟨ret_b HE.out.symm, H3.out⟩
  subst hk
  by_cases hk : s = s'
  case neg =>
   have h1 := bytes_ne hk
   have HE := Lib.hid (show sameT (T.mk k n x s l) (T.mk k n x s' l') = false from sameT_false (fun e => hk (by injection e)))
   clear hk
   go_enter Tryz.func215, Tryz.ntmps215
   go_wp2_with fail
   go_ret
   exact ⟨ret_b HE.out.symm, H3.out⟩
  subst hk
  have HE := Lib.hid (show sameTs l l' = sameT (T.mk k n x s l) (T.mk k n x s l') from by
   by_cases e : l = l'
   ·rw [sameT_true (by rw [e]), sameTs_true e]
   ·rw [sameT_false (fun h => e (by injection h)), sameTs_false e])
  go_enter Tryz.func215, Tryz.ntmps215
  go_wp2_with fail
  refine (equalFuncVal l l' IH a a' cap cap' B _ (HR.out.below H3.out hB) (HR'.out.below H3.out hB) (by simp; omega)).mono ?_
  rintro e w2 ⟨rfl, hb2⟩
  rw [HE.out]
  go_wp2_with fail
  go_ret
  exact ⟨rfl, below_step H3.out hb2 (by simp; omega)⟩
def sdig (k : Nat) (out : ByteArray) : ByteArray := if h : k = 0 then out else sdig (k / 10) (strOfNums [48 + (k : Int) % 10] ++ out)
termination_by k
decreasing_by omega
theorem sdig_zero (out : ByteArray) : sdig 0 out = out := by rw [sdig]; simp
theorem sdig_pos (k : Nat) (h : k ≠ 0) (out : ByteArray) : sdig k out = sdig (k / 10) (strOfNums [48 + (k : Int) % 10] ++ out) := by rw [sdig]; simp [h]
theorem digit_one (k : Nat) (h : k < 10) : strOfNums [48 + (k : Int)] = ⟨#[UInt8.ofNat (48 + k)]⟩ := by
 have h1 : (48 + (k : Int)).toNat = 48 + k := by omega
 unfold strOfNums
 simp only [List.map, h1]
theorem sdig_dec (k : Nat) : ∀ out : ByteArray, k ≠ 0 → sdig k out = ⟨(Lib.decDigits k).toArray⟩ ++ out := by
 induction k using Nat.strongRecOn with
 | ind k ih =>
  intro out h
  rw [sdig_pos k h]
  have hm : (k : Int) % 10 = ((k % 10 : Nat) : Int) := by omega
  rw [hm, digit_one _ (by omega)]
  by_cases h10 : k < 10
  ·rw [show k / 10 = 0 from by omega, sdig_zero, Lib.decDigits_one h10, Nat.mod_eq_of_lt h10]
  ·rw [ih (k / 10) (by omega) _ (by omega), ← ByteArray.append_assoc]
   have e : Lib.decDigits k = Lib.decDigits (k / 10) ++ [UInt8.ofNat (48 + k % 10)] := by
    conv => lhs; rw [Lib.decDigits, dif_neg h10]
   rw [e]
   congr 1
theorem small_pow {m k : Nat} (h : m * 10 ^ k ≤ 9223372036854775808) (hm : m ≠ 0) : k ≤ 18 := by
 rcases Nat.lt_or_ge 18 k with hk | hk
 ·exfalso
  have h1 : 10 ^ 19 ≤ 10 ^ k := Nat.pow_le_pow_right (by omega) hk
  have h2 : 1 * 10 ^ k ≤ m * 10 ^ k := Nat.mul_le_mul_right _ (by omega)
  have h3 : (10 : Nat) ^ 19 = 10000000000000000000 := by decide
  omega
 ·exact hk
theorem next_pow {m k : Nat} (h : m * 10 ^ k ≤ 9223372036854775808) : m / 10 * 10 ^ (1 + k) ≤ 9223372036854775808 := by
 rw [Nat.pow_add, ← Nat.mul_assoc]
 have h1 : m / 10 * 10 ^ 1 ≤ m := by omega
 exact Nat.le_trans (Nat.mul_le_mul_right _ h1) h
def numT (n : Int) : ByteArray := ⟨(Lib.itoa n).toArray⟩
theorem numT_zero : numT 0 = ⟨#[48]⟩ := by unfold numT Lib.itoa; rw [if_neg (by omega), Int.toNat_zero, Lib.decDigits_one (by omega)]; rfl
set_option maxHeartbeats 800000 in
theorem spec_NumText (n : Int) (w : World) (hn : I64 n) :
  Calls Tryz.prog 113 #[.int .i64 n] w fun e w' => e = .returned (.string (numT n)) ∧ Below w.heap.size w w' := by
 obtain ⟨hn0, hn1⟩ := hn
 by_cases hz : n = 0
 ·subst hz
  go_enter Tryz.func113, Tryz.ntmps113
  go_wp2
  go_ret
  exact ⟨by rw [numT_zero]; rfl, by go_grown⟩
 ·by_cases hp : 0 < n
  ·obtain ⟨u, rfl⟩ : ∃ u : Nat, n = u := ⟨n.toNat, by omega⟩
   have hzb : ((u : Int) == 0) = false := by rw [beq_eq_false_iff_ne]; omega
   have HT := Lib.hid (show numT u = sdig u ⟨#[]⟩ from by rw [sdig_dec u _ (by omega)]; unfold numT Lib.itoa; rw [if_neg (by omega)]; simp; apply bytes_inj; simp)
   go_enter Tryz.func113, Tryz.ntmps113
   go_wp2_with fail
   go_loopw [3, 4, 5] (fun s q _ wr => ∃ (m : Nat) (o : ByteArray), q = .int .i64 m ∧ s = .string o ∧ m ≤ 9223372036854775807 ∧ o.size ≤ 19 ∧ Hid (m * 10 ^ o.size ≤ 9223372036854775808) ∧ Hid (sdig u ⟨#[]⟩ = sdig m o) ∧ Below w.heap.size w wr) (fun _ q _ _ => (intOf q).toNat)
   case atStart => exact ⟨u, ⟨#[]⟩, by go_num, rfl, by omega, by have h2 : (⟨#[]⟩ : ByteArray).size = 0 := rfl; omega, by have h2 : (⟨#[]⟩ : ByteArray).size = 0 := rfl; show _ ≤ _; rw [h2]; omega, rfl, Below.refl _ _⟩
   case round =>
    obtain ⟨m, o, rfl, rfl, hm1, hs, HPW, HM, hb⟩ := hrel
    by_cases hm : m = 0
    ·subst hm
     go_wp2_with fail
     go_ret
     refine ⟨?_, hb⟩
     have h2 := HM.out
     rw [sdig_zero] at h2
     rw [HT.out, h2]; rfl
    ·have hm0 : 0 < m := by omega
     have hmb : ((m : Int) == 0) = false := by rw [beq_eq_false_iff_ne]; omega
     have hcv := run_convert_bytes_arg (P := Tryz.prog) (wr.alloc (.cells #[.int .u8 (48 + (m : Int) % 10)] 5)) 22 5 Tryz.underlying22 Tryz.underlying5 wr.heap.size 0 1 1 [48 + (m : Int) % 10] rfl (by intro i hi; (obtain rfl : i = 0 := (by omega)); exact (Is.new wr _ _).cell 0 rfl) 9 Tryz.underlying9
     have hs18 := small_pow HPW.out hm
     have HPN := Lib.hid (next_pow HPW.out)
     have hd0 : ¬ ((m : Int) % 10 < 0) := by omega
     have HM2 := Lib.hid (HM.out.trans (sdig_pos m hm o))
     have hsz : (strOfNums [48 + (m : Int) % 10]).size = 1 := strOfNums_size _
     clear HM
     go_wp2_with fail
     go_roundw
     case rel => exact ⟨m / 10, _, by go_num, rfl, by omega, by rw [ByteArray.size_append]; omega, by show _ ≤ _; rw [ByteArray.size_append, hsz]; exact HPN.out, HM2.out, hb.trans ((below1 _ _).mono hb.size)⟩
     case measure => simp [intOf]; omega
  ·obtain ⟨u, rfl⟩ : ∃ u : Nat, n = -(u : Int) := ⟨n.natAbs, by omega⟩
   have hzb : (-(u : Int) == 0) = false := by rw [beq_eq_false_iff_ne]; omega
   have hlt0 : -(u : Int) < 0 := by omega
   have HT := Lib.hid (show numT (-(u : Int)) = ⟨#[45]⟩ ++ sdig u ⟨#[]⟩ from by rw [sdig_dec u _ (by omega)]; unfold numT Lib.itoa; rw [if_pos (by omega)]; simp; apply bytes_inj; simp)
   go_enter Tryz.func113, Tryz.ntmps113
   go_wp2_with fail
   go_loopw [3, 4, 5] (fun s q _ wr => ∃ (m : Nat) (o : ByteArray), q = .int .i64 (-(m : Int)) ∧ s = .string o ∧ m ≤ 9223372036854775808 ∧ o.size ≤ 20 ∧ Hid (m * 10 ^ o.size ≤ 9223372036854775808) ∧ Hid (sdig u ⟨#[]⟩ = sdig m o) ∧ Below w.heap.size w wr) (fun _ q _ _ => (intOf q).natAbs)
   case atStart => exact ⟨u, ⟨#[]⟩, by go_num, rfl, by omega, by have h2 : (⟨#[]⟩ : ByteArray).size = 0 := rfl; omega, by have h2 : (⟨#[]⟩ : ByteArray).size = 0 := rfl; show _ ≤ _; rw [h2]; omega, rfl, Below.refl _ _⟩
   case round =>
    obtain ⟨m, o, rfl, rfl, hm1, hs, HPW, HM, hb⟩ := hrel
    by_cases hm : m = 0
    ·subst hm
     go_wp2_with fail
     go_ret
     refine ⟨?_, hb⟩
     have h2 := HM.out
     rw [sdig_zero] at h2
     rw [HT.out, h2]; rfl
    ·have hm0 : 0 < m := by omega
     have hmb : (-(m : Int) == 0) = false := by rw [beq_eq_false_iff_ne]; omega
     have hcv := run_convert_bytes_arg (P := Tryz.prog) (wr.alloc (.cells #[.int .u8 (48 + (m : Int) % 10)] 5)) 22 5 Tryz.underlying22 Tryz.underlying5 wr.heap.size 0 1 1 [48 + (m : Int) % 10] rfl (by intro i hi; (obtain rfl : i = 0 := (by omega)); exact (Is.new wr _ _).cell 0 rfl) 9 Tryz.underlying9
     have hs18 := small_pow HPW.out hm
     have HPN := Lib.hid (next_pow HPW.out)
     have htm : (-(m : Int)).tmod 10 = -((m : Int) % 10) := by rw [Int.neg_tmod, Int.tmod_eq_emod_of_nonneg (by omega)]
     have htd : (-(m : Int)).tdiv 10 = -((m : Int) / 10) := by rw [Int.neg_tdiv, Int.tdiv_eq_ediv_of_nonneg (by omega)]
     have HM2 := Lib.hid (HM.out.trans (sdig_pos m hm o))
     have hsz : (strOfNums [48 + (m : Int) % 10]).size = 1 := strOfNums_size _
     clear HM
     by_cases hd : (m : Int) % 10 = 0
     ·have HM3 := Lib.hid (show sdig u ⟨#[]⟩ = sdig (m / 10) (strOfNums [48] ++ o) from by have := HM2.out; rw [hd] at this; exact this)
      have hsz3 : (strOfNums [48]).size = 1 := strOfNums_size _
      have hcv3 := run_convert_bytes_arg (P := Tryz.prog) (wr.alloc (.cells #[.int .u8 48] 5)) 22 5 Tryz.underlying22 Tryz.underlying5 wr.heap.size 0 1 1 [48] rfl (by intro i hi; (obtain rfl : i = 0 := (by omega)); exact (Is.new wr _ _).cell 0 rfl) 9 Tryz.underlying9
      clear hcv hsz HM2
      go_wp2_with fail
      go_roundw
      case rel => exact ⟨m / 10, _, by go_num, rfl, by omega, by rw [ByteArray.size_append]; omega, by show _ ≤ _; rw [ByteArray.size_append, hsz3]; exact HPN.out, HM3.out, hb.trans ((below1 _ _).mono hb.size)⟩
      case measure => simp [intOf]; omega
     ·have hd0 : -((m : Int) % 10) < 0 := by omega
      go_wp2_with fail
      go_roundw
      case rel => exact ⟨m / 10, _, by go_num, rfl, by omega, by rw [ByteArray.size_append]; omega, by show _ ≤ _; rw [ByteArray.size_append, hsz]; exact HPN.out, HM2.out, hb.trans ((below1 _ _).mono hb.size)⟩
      case measure => simp [intOf]; omega
theorem impl_NumText (n : Int) (w : World) (hn : I64 n) (htab : Lib.TabIs Tryz.prog w "internal/strconv.uint64pow10" .u64 Lib.pow10Tab) :
  Calls Tryz.prog 196 #[.int .i64 n] w fun e w' => e = .returned (.string (numT n)) ∧ Below w.heap.size w w' := by
 have h := Tryz.strconv_Itoa n hn.1 hn.2 w htab
 go_enter Tryz.func196, Tryz.ntmps196
 go_wp2_with fail
 refine h.mono ?_
 rintro e w2 ⟨rfl, k, os, rfl⟩
 go_wp2_with fail
 go_ret
 exact ⟨rfl, Go.Lib.below_grow _ w (Nat.le_refl _) k os⟩
def grW (n b0 b1 b2 b3 : Nat) : Nat × Nat :=
 if b0 < 128 then (b0, 1)
 else if 192 ≤ b0 ∧ b0 ≤ 223 then (if 2 ≤ n ∧ (128 ≤ b1 ∧ b1 ≤ 191) ∧ 128 ≤ (b0 - 192) * 64 + (b1 - 128) then ((b0 - 192) * 64 + (b1 - 128), 2) else (0, 0))
 else if 224 ≤ b0 ∧ b0 ≤ 239 then (if 3 ≤ n ∧ (128 ≤ b1 ∧ b1 ≤ 191) ∧ (128 ≤ b2 ∧ b2 ≤ 191) ∧ 2048 ≤ (b0 - 224) * 4096 + (b1 - 128) * 64 + (b2 - 128) ∧ ¬ (55296 ≤ (b0 - 224) * 4096 + (b1 - 128) * 64 + (b2 - 128) ∧ (b0 - 224) * 4096 + (b1 - 128) * 64 + (b2 - 128) ≤ 57343) then ((b0 - 224) * 4096 + (b1 - 128) * 64 + (b2 - 128), 3) else (0, 0))
 else if 240 ≤ b0 ∧ b0 ≤ 247 then (if 4 ≤ n ∧ (128 ≤ b1 ∧ b1 ≤ 191) ∧ (128 ≤ b2 ∧ b2 ≤ 191) ∧ (128 ≤ b3 ∧ b3 ≤ 191) ∧ 65536 ≤ (b0 - 240) * 262144 + (b1 - 128) * 4096 + (b2 - 128) * 64 + (b3 - 128) ∧ (b0 - 240) * 262144 + (b1 - 128) * 4096 + (b2 - 128) * 64 + (b3 - 128) ≤ 1114111 then ((b0 - 240) * 262144 + (b1 - 128) * 4096 + (b2 - 128) * 64 + (b3 - 128), 4) else (0, 0))
 else (0, 0)
set_option maxHeartbeats 4000000 in
theorem grW_decode (n b0 b1 b2 b3 : Nat) (hn : 1 ≤ n) (h0 : b0 < 256) (h1 : b1 < 256) (h2 : b2 < 256) (h3 : b3 < 256) :
  ((grW n b0 b1 b2 b3).2 = 0 ∧ Lib.decodeN n b0 b1 b2 b3 = (65533, 1)) ∨ ((grW n b0 b1 b2 b3).2 ≠ 0 ∧ Lib.decodeN n b0 b1 b2 b3 = grW n b0 b1 b2 b3 ∧ (grW n b0 b1 b2 b3).2 ≤ n ∧ ((grW n b0 b1 b2 b3).2 = 1 → (grW n b0 b1 b2 b3).1 < 128)) := by
 unfold grW Lib.decodeN
 by_cases c0 : b0 < 128
 ·rw [if_pos c0]; right; exact ⟨by simp, by rw [if_pos c0], by simpa using hn, fun _ => c0⟩
 rw [if_neg c0, if_neg c0]
 by_cases c1 : 192 ≤ b0 ∧ b0 ≤ 223
 ·rw [if_pos c1]
  by_cases d : 2 ≤ n ∧ (128 ≤ b1 ∧ b1 ≤ 191) ∧ 128 ≤ (b0 - 192) * 64 + (b1 - 128)
  ·rw [if_pos d, if_pos (by omega), if_pos (by omega)]; right
   exact ⟨by simp, by apply Prod.ext <;> simp only <;> omega, by simp only; omega, by simp⟩
  ·rw [if_neg d]; left
   refine ⟨rfl, ?_⟩
   by_cases e : b0 / 32 = 6 ∧ (1 < n ∧ b1 / 64 = 2)
   ·rw [if_pos e, if_neg (by omega)]
   ·rw [if_neg e, if_neg (by omega), if_neg (by omega)]
 rw [if_neg c1]
 by_cases c2 : 224 ≤ b0 ∧ b0 ≤ 239
 ·rw [if_pos c2]
  by_cases d : 3 ≤ n ∧ (128 ≤ b1 ∧ b1 ≤ 191) ∧ (128 ≤ b2 ∧ b2 ≤ 191) ∧ 2048 ≤ (b0 - 224) * 4096 + (b1 - 128) * 64 + (b2 - 128) ∧ ¬ (55296 ≤ (b0 - 224) * 4096 + (b1 - 128) * 64 + (b2 - 128) ∧ (b0 - 224) * 4096 + (b1 - 128) * 64 + (b2 - 128) ≤ 57343)
  ·rw [if_pos d, if_neg (by omega), if_pos (by omega), if_pos (by omega)]; right
   exact ⟨by simp, by apply Prod.ext <;> simp only <;> omega, by simp only; omega, by simp⟩
  ·rw [if_neg d]; left
   refine ⟨rfl, ?_⟩
   rw [if_neg (by omega)]
   by_cases e : b0 / 16 = 14 ∧ (1 < n ∧ b1 / 64 = 2) ∧ (2 < n ∧ b2 / 64 = 2)
   ·rw [if_pos e, if_neg (by omega)]
   ·rw [if_neg e, if_neg (by omega)]
 rw [if_neg c2]
 by_cases c3 : 240 ≤ b0 ∧ b0 ≤ 247
 ·rw [if_pos c3]
  by_cases d : 4 ≤ n ∧ (128 ≤ b1 ∧ b1 ≤ 191) ∧ (128 ≤ b2 ∧ b2 ≤ 191) ∧ (128 ≤ b3 ∧ b3 ≤ 191) ∧ 65536 ≤ (b0 - 240) * 262144 + (b1 - 128) * 4096 + (b2 - 128) * 64 + (b3 - 128) ∧ (b0 - 240) * 262144 + (b1 - 128) * 4096 + (b2 - 128) * 64 + (b3 - 128) ≤ 1114111
  ·rw [if_pos d, if_neg (by omega), if_neg (by omega), if_pos (by omega), if_pos (by omega)]; right
   exact ⟨by simp, by apply Prod.ext <;> simp only <;> omega, by simp only; omega, by simp⟩
  ·rw [if_neg d]; left
   refine ⟨rfl, ?_⟩
   rw [if_neg (by omega), if_neg (by omega)]
   by_cases e : b0 / 8 = 30 ∧ (1 < n ∧ b1 / 64 = 2) ∧ (2 < n ∧ b2 / 64 = 2) ∧ (3 < n ∧ b3 / 64 = 2)
   ·rw [if_pos e, if_neg (by omega)]
   ·rw [if_neg e]
 rw [if_neg c3]; left
 exact ⟨rfl, by rw [if_neg (by omega), if_neg (by omega), if_neg (by omega)]⟩
def grL (l : List UInt8) : Nat × Nat := grW l.length (l.getD 0 0).toNat (l.getD 1 0).toNat (l.getD 2 0).toNat (l.getD 3 0).toNat
theorem grL_cases (l : List UInt8) (hne : l ≠ []) : ((grL l).2 = 0 ∧ Lib.decodeL l = (65533, 1)) ∨ ((grL l).2 ≠ 0 ∧ Lib.decodeL l = grL l ∧ (grL l).2 ≤ l.length ∧ ((grL l).2 = 1 → (grL l).1 < 128)) := by
 have hl : 0 < l.length := List.length_pos_iff.2 hne
 rw [Lib.decodeL_N]
 exact grW_decode _ _ _ _ _ hl (l.getD 0 0).toNat_lt (l.getD 1 0).toNat_lt (l.getD 2 0).toNat_lt (l.getD 3 0).toNat_lt
theorem validD_gr (l : List UInt8) (hne : l ≠ []) : Lib.validD l = if (grL l).2 = 0 then false else Lib.validD (l.drop (grL l).2) := by
 rw [Lib.validD_step l hne]
 rcases grL_cases l hne with ⟨h1, h2⟩ | ⟨h1, h2, h3, h4⟩
 ·rw [h2, if_pos h1]; simp
 ·rw [h2, if_neg h1, if_neg (fun h => by have := h4 h.2; omega)]
theorem spec_l1In (n lo hi : Int) (w : World) : Calls Tryz.prog 74 #[.int .i64 n, .int .i64 lo, .int .i64 hi] w fun e w' => e = .returned (.bool (decide (lo ≤ n ∧ n ≤ hi))) ∧ Below w.heap.size w w' := by
 by_cases h1 : lo ≤ n
 ·by_cases h2 : n ≤ hi
  ·have hd : decide (lo ≤ n ∧ n ≤ hi) = true := decide_eq_true ⟨h1, h2⟩
   rw [hd]; clear hd
   go_enter Tryz.func74, Tryz.ntmps74
   go_wp2
   go_ret
   exact ⟨rfl, by go_grown⟩
  ·have hd : decide (lo ≤ n ∧ n ≤ hi) = false := decide_eq_false (fun h => h2 h.2)
   rw [hd]; clear hd
   go_enter Tryz.func74, Tryz.ntmps74
   go_wp2
   go_ret
   exact ⟨rfl, by go_grown⟩
 ·have hd : decide (lo ≤ n ∧ n ≤ hi) = false := decide_eq_false (fun h => h1 h.1)
  rw [hd]; clear hd
  go_enter Tryz.func74, Tryz.ntmps74
  go_wp2
  go_ret
  exact ⟨rfl, by go_grown⟩
theorem impl_within (n lo hi : Int) (w : World) : Calls Tryz.prog 125 #[.int .i64 n, .int .i64 lo, .int .i64 hi] w fun e w' => e = .returned (.bool (decide (lo ≤ n ∧ n ≤ hi))) ∧ Below w.heap.size w w' := by
 by_cases h1 : lo ≤ n
 ·by_cases h2 : n ≤ hi
  ·have hd : decide (lo ≤ n ∧ n ≤ hi) = true := decide_eq_true ⟨h1, h2⟩
   rw [hd]; clear hd
   go_enter Tryz.func125, Tryz.ntmps125
   go_wp2
   go_ret
   exact ⟨rfl, by go_grown⟩
  ·have hd : decide (lo ≤ n ∧ n ≤ hi) = false := decide_eq_false (fun h => h2 h.2)
   rw [hd]; clear hd
   go_enter Tryz.func125, Tryz.ntmps125
   go_wp2
   go_ret
   exact ⟨rfl, by go_grown⟩
 ·have hd : decide (lo ≤ n ∧ n ≤ hi) = false := decide_eq_false (fun h => h1 h.1)
  rw [hd]; clear hd
  go_enter Tryz.func125, Tryz.ntmps125
  go_wp2
  go_ret
  exact ⟨rfl, by go_grown⟩
def digN (n : Int) : Nat := Lib.nDigits n.natAbs
def digC (m : Nat) : Nat := if m = 0 then 0 else Lib.nDigits m
theorem digC_zero : digC 0 = 0 := rfl
theorem nDigits_eq (u : Nat) : Lib.nDigits u = 1 + digC (u / 10) := by
 rw [Lib.nDigits]
 by_cases h : u < 10
 ·rw [dif_pos h, show u / 10 = 0 from by omega]; rfl
 ·rw [dif_neg h]; unfold digC; rw [if_neg (by omega)]; omega
theorem digC_pos (m : Nat) (h : m ≠ 0) : digC m = digC (m / 10) + 1 := by
 conv => lhs; unfold digC
 rw [if_neg h, nDigits_eq]; omega
theorem digN_eq (n : Int) : digN n = 1 + digC (n.natAbs / 10) := nDigits_eq _
theorem tdiv_abs (n : Int) : (n.tdiv 10).natAbs = n.natAbs / 10 := by
 rw [Int.natAbs_tdiv]; rfl
theorem digN_le (n : Int) (h : I64 n) : digN n ≤ 20 := Lib.nDigits_le20 _ (by have := h.1; have := h.2; omega)
set_option maxHeartbeats 800000 in
theorem spec_Digits (n : Int) (w : World) (hn : I64 n) : Calls Tryz.prog 188 #[.int .i64 n] w fun e w' => e = .returned (.int .i64 (digN n)) ∧ Below w.heap.size w w' := by
 obtain ⟨hn0, hn1⟩ := hn
 have HD := Lib.hid (digN_eq n)
 have h20 := digN_le n ⟨hn0, hn1⟩
 go_enter Tryz.func188, Tryz.ntmps188
 go_wp2_with fail
 go_loopw [3, 4] (fun s q wr => ∃ (m : Int) (c : Nat), q = .int .i64 m ∧ s = .int .i64 c ∧ -9223372036854775808 ≤ m ∧ m ≤ 9223372036854775807 ∧ c ≤ 20 ∧ Hid (digN n = c + digC m.natAbs) ∧ Below w.heap.size w wr) (fun _ q _ => (intOf q).natAbs)
 case atStart => exact ⟨n.tdiv 10, 1, by go_num, rfl, by have := tdiv_abs n; omega, by have := tdiv_abs n; omega, by omega, by show _ = _; rw [tdiv_abs]; exact HD.out, Below.refl _ _⟩
 case round =>
  obtain ⟨m, c, rfl, rfl, hm0, hm1, hc, HC, hb⟩ := hrel
  by_cases hz : m = 0
  ·subst hz
   have HE := Lib.hid (show digN n = c from by have := HC.out; rw [show (0 : Int).natAbs = 0 from rfl, digC_zero] at this; omega)
   go_wp2_with fail
   go_ret
   exact ⟨by rw [HE.out]; rfl, hb⟩
  ·have hc2 : c + 1 ≤ 20 := by have := HC.out; rw [digC_pos _ (by omega)] at this; omega
   have HC2 := Lib.hid (show digN n = (c + 1) + digC (m.tdiv 10).natAbs from by have := HC.out; rw [digC_pos _ (by omega)] at this; rw [tdiv_abs]; omega)
   have hlt : (m.tdiv 10).natAbs < m.natAbs := by rw [tdiv_abs]; omega
   have ht0 : -9223372036854775808 ≤ m.tdiv 10 := by have := tdiv_abs m; omega
   have ht1 : m.tdiv 10 ≤ 9223372036854775807 := by have := tdiv_abs m; omega
   go_wp2_with fail
   go_roundw
   case rel => exact ⟨m.tdiv 10, c + 1, by go_num, by go_num, ht0, ht1, hc2, HC2.out, hb⟩
   case measure => exact hlt
end Go.Proofs.YtggdenkmohnijaaGreatDoor
