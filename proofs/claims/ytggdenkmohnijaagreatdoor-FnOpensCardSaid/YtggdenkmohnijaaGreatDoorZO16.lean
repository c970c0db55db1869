/- Texts of this proof, merged: LawsE, DrwB, LeafB, Drw1. No condition beyond what each theorem states. -/
import Derived.Test.YtggdenkmohnijaaGreatDoorZO8
set_option linter.unusedSimpArgs false
set_option linter.unnecessarySimpa false
namespace Go.Proofs.YtggdenkmohnijaaGreatDoor
open Go.ChangeShapes Go.WideShapes Go.ChangeAt Go.RowKit Go.Joins
set_option linter.unusedVariables false
set_option maxRecDepth 100000
set_option maxHeartbeats 1000000 in
theorem laws_sameVal : ∀ t u : T, ∀ (a a' : Option Addr) (cap cap' B : Nat) (w : World), R w B a cap t.l → R w B a' cap' u.l → B ≤ w.heap.size →
  Calls Tryz.prog 24 #[.agg (cV t a cap), .agg (cV u a' cap')] w fun e w' => e = .returned (.bool (sameT t u)) ∧ Below w.heap.size w w' := by
 intro t
 induction t using T.ind with
 | h k n x s l ih =>
  intro u a a' cap cap' B w hr hr' hB
  have IH := Lib.hid ih; clear ih
  obtain ⟨k', n', x', s', l'⟩ := u
  simp only [cV, T.k, T.n, T.x, T.s, T.l] at hr hr' ⊢
  obtain ⟨hl1, hl2⟩ := hr.len
  obtain ⟨hm1, hm2⟩ := hr'.len
  have HR := Lib.hid hr; clear hr
  have HR' := Lib.hid hr'; clear hr'
  have H3 := Lib.hid (below2 w (.cells #[Value.int IntKind.i64 k, Value.int IntKind.i64 n, Value.int IntKind.i64 x, Value.string s, Value.slice a l.length cap] 26) (.cells #[Value.int IntKind.i64 k', Value.int IntKind.i64 n', Value.int IntKind.i64 x', Value.string s', Value.slice a' l'.length cap'] 26))
  by_cases hk : k = k'
  case neg =>
   have h1 : (k == k') = false := by simp [hk]
   have h2 : (k != k') = true := by simp [hk]
   have HE := Lib.hid (show sameT (T.mk k n x s l) (T.mk k' n' x' s' l') = false from sameT_false (fun e => hk (by injection e)))
   clear hk
   go_enter Tryz.func24, Tryz.ntmps24
   go_wp2_with fail
   go_ret
   exact ⟨ret_b HE.out.symm, H3.out⟩
  subst hk
  by_cases hk : n = n'
  case neg =>
   have h1 : (n == n') = false := by simp [hk]
   have h2 : (n != n') = true := by simp [hk]
   have HE := Lib.hid (show sameT (T.mk k n x s l) (T.mk k n' x' s' l') = false from sameT_false (fun e => hk (by injection e)))
   clear hk
   go_enter Tryz.func24, Tryz.ntmps24
   go_wp2_with fail
   go_ret
   exact ⟨ret_b HE.out.symm, H3.out⟩
  subst hk
  by_cases hk : x = x'
  case neg =>
   have h1 : (x == x') = false := by simp [hk]
   have h2 : (x != x') = true := by simp [hk]
   have HE := Lib.hid (show sameT (T.mk k n x s l) (T.mk k n x' s' l') = false from sameT_false (fun e => hk (by injection e)))
   clear hk
   go_enter Tryz.func24, Tryz.ntmps24
   go_wp2_with fail
   go_ret
   exact ⟨ret_b HE.out.symm, H3.out⟩
  subst hk
  by_cases hk : s = s'
  case neg =>
   have h1 := bytes_ne hk
   have h2 : (s.toList != s'.toList) = true := by simp [bne, h1]
   have HE := Lib.hid (show sameT (T.mk k n x s l) (T.mk k n x s' l') = false from sameT_false (fun e => hk (by injection e)))
   clear hk
   go_enter Tryz.func24, Tryz.ntmps24
   go_wp2_with fail
   go_ret
   exact ⟨ret_b HE.out.symm, H3.out⟩
  subst hk
  by_cases hk : l.length = l'.length
  case neg =>
   have h1 : ((l.length : Int) == l'.length) = false := by rw [beq_eq_false_iff_ne]; omega
   have h2 : ((l.length : Int) != l'.length) = true := by simp [bne, h1]
   have HE := Lib.hid (show sameT (T.mk k n x s l) (T.mk k n x s l') = false from sameT_false (fun e => hk (by injection e with _ _ _ _ e5; rw [e5])))
   clear hk
   go_enter Tryz.func24, Tryz.ntmps24
   go_wp2_with fail
   go_ret
   exact ⟨ret_b HE.out.symm, H3.out⟩
  have h1 : ((l.length : Int) == l'.length) = true := by simp [hk]
  have h2 : ((l.length : Int) != l'.length) = false := by simp [hk]
  have HL := Lib.hid hk; clear hk
  have q1 : Is ((w.alloc (.cells #[Value.int IntKind.i64 k, Value.int IntKind.i64 n, Value.int IntKind.i64 x, Value.string s, Value.slice a l.length cap] 26)).alloc (.cells #[Value.int IntKind.i64 k, Value.int IntKind.i64 n, Value.int IntKind.i64 x, Value.string s, Value.slice a' l'.length cap'] 26)) w.heap.size 26 _ := (Is.new _ _ _).alloc _
  have q2 := Is.new2 w (.cells #[Value.int IntKind.i64 k, Value.int IntKind.i64 n, Value.int IntKind.i64 x, Value.string s, Value.slice a l.length cap] 26) #[Value.int IntKind.i64 k, Value.int IntKind.i64 n, Value.int IntKind.i64 x, Value.string s, Value.slice a' l'.length cap'] 26
  have hs : w.heap.size + 2 ≤ ((w.alloc (.cells #[Value.int IntKind.i64 k, Value.int IntKind.i64 n, Value.int IntKind.i64 x, Value.string s, Value.slice a l.length cap] 26)).alloc (.cells #[Value.int IntKind.i64 k, Value.int IntKind.i64 n, Value.int IntKind.i64 x, Value.string s, Value.slice a' l'.length cap'] 26)).heap.size := by simp
  go_enter Tryz.func24, Tryz.ntmps24
  go_wp2_with fail
  generalize hW : (w.alloc (.cells #[Value.int IntKind.i64 k, Value.int IntKind.i64 n, Value.int IntKind.i64 x, Value.string s, Value.slice a l.length cap] 26)).alloc (.cells #[Value.int IntKind.i64 k, Value.int IntKind.i64 n, Value.int IntKind.i64 x, Value.string s, Value.slice a' l'.length cap'] 26) = W0 at q1 q2 H3 hs ⊢
  clear hW
  go_loopw [5] (fun i wr => ∃ (j : Nat), j ≤ l.length ∧ i = .int .i64 j ∧ Hid (l.take j = l'.take j) ∧ Below W0.heap.size W0 wr) (fun i _ => l.length - (intOf i).toNat)
  case atStart => exact ⟨0, Nat.zero_le _, rfl, rfl, Below.refl _ _⟩
  case round =>
   obtain ⟨j, hj, rfl, HP, hb⟩ := hrel
   have hbs := hb.size
   obtain ⟨c0, c1, c2, c3, c4⟩ := (q1.below hb (by omega)).cells5
   obtain ⟨e0, e1, e2, e3, e4⟩ := (q2.below hb (by omega)).cells5
   by_cases hlt : j < l.length
   ·have hlt' : j < l'.length := by have := HL.out; omega
    have hR := (HR.out.below H3.out hB).below hb (by omega)
    have hR' := (HR'.out.below H3.out hB).below hb (by omega)
    obtain ⟨b, o, a2, cap2, rfl, hbl, d0, d1, d2, d3, d4, hwf, hq⟩ := hR.get j hlt
    obtain ⟨b', o', a3, cap3, rfl, hbl', d0', d1', d2', d3', d4', hwf', hq'⟩ := hR'.get j hlt'
    have l1 : b < wr.heap.size := by omega
    have l2 : b' < wr.heap.size := by omega
    have l3 : w.heap.size < wr.heap.size := by omega
    have l4 : w.heap.size + 1 < wr.heap.size := by omega
    clear hR hR' hwf hwf'
    go_wp2_with fail
    go_region_held3 (fun w' => (∀ b o, b < wr.heap.size → w'.cell? ⟨b, o, none⟩ = wr.cell? ⟨b, o, none⟩) ∧ Below (wr.heap.size) wr w') (first | exact kpZ | assumption | exact kpD (by assumption) | exact kpB (by assumption) (by assumption) | exact kpC (by assumption) (by assumption) | exact kpA (by assumption)) (first | (go_at_call 24; refine (IH.out l[j] (List.getElem_mem hlt) l'[j] _ _ _ _ B _ ?_ ?_ (by have := (‹_ ∧ Below (wr.heap.size) wr _›).2.size; omega)).mono ?_; (exact hq.below (‹_ ∧ Below (wr.heap.size) wr _›).2 (by omega)); (exact hq'.below (‹_ ∧ Below (wr.heap.size) wr _›).2 (by omega)); rintro e w2 ⟨rfl, hb2⟩))
    have K := Lib.hid (hb.trans ((‹_ ∧ Below (wr.heap.size) wr _›).2.mono hbs))
    clear hb2
    by_cases he : l[j] = l'[j]
    ·have HE := Lib.hid (show l.take (j + 1) = l'.take (j + 1) from by rw [take_snoc l j hlt, take_snoc l' j hlt', HP.out, he])
     have hd := sameT_true he
     clear he
     rw [hd]
     go_wp2_with fail
     go_roundw
     case rel => exact ⟨j + 1, by omega, by go_num, HE.out, K.out⟩
     case measure => simp [intOf]; omega
    ·have HE := Lib.hid (show sameT (T.mk k n x s l) (T.mk k n x s l') = false from sameT_false (fun e => he (by injection e with _ _ _ _ e5; subst e5; rfl)))
     have hd := sameT_false he
     clear he
     rw [hd]
     go_wp2_with fail
     go_ret
     exact ⟨ret_b HE.out.symm, H3.out.trans (K.out.mono (by omega))⟩
   ·have HJ := Lib.hid (show sameT (T.mk k n x s l) (T.mk k n x s l') = true from sameT_true (by have := HP.out; have h2 := HL.out; rw [List.take_of_length_le (by omega), List.take_of_length_le (by omega)] at this; rw [this]))
    go_wp2_with fail
    go_ret
    exact ⟨ret_b HJ.out.symm, H3.out.trans (hb.mono (by omega))⟩
theorem laws_big (a : Option Addr) (cap : Nat) (l : List Int) (w : World) : Calls Tryz.prog 9 #[.slice a l.length cap] w fun e w' => e = .returned (.bool (decide (1048576 < l.length))) ∧ w' = w := by
 by_cases h : 1048576 < l.length
 ·have hz : (1048576 : Int) < (l.length : Int) := by omega
  go_enter Tryz.func9, Tryz.ntmps9
  go_wp2_with fail
  go_ret
  exact ⟨by simp [h], rfl⟩
 ·have hz : ¬ (1048576 : Int) < (l.length : Int) := by omega
  go_enter Tryz.func9, Tryz.ntmps9
  go_wp2_with fail
  go_ret
  exact ⟨by simp [h], rfl⟩
abbrev Kp (A : Nat) (w w' : World) : Prop := Beside A (A + 1) w w'
theorem Kp.of_below {A n : Nat} {w w' : World} (h : Below n w w') (hn : w.heap.size ≤ n) (hA : A ≤ n) : Kp A w w' := Beside.of_below h hn hA
theorem Kp.size {A : Nat} {w w' : World} (h : Kp A w w') : w.heap.size ≤ w'.heap.size := h.1.size
theorem Kp.heap {A : Nat} {w w' : World} (h : Kp A w w') (f : Nat) (hf : f ≠ A) (hl : f < w.heap.size) : w'.heap[f]? = w.heap[f]? := by
 rcases Nat.lt_or_ge f A with h1 | h1
 ·exact h.1.block f h1
 ·exact h.2 f (by omega) hl
theorem Kp.is {A g : Nat} {w w' : World} {e : TypeId} {cs : Array Value} (h : Kp A w w') (hi : Is w g e cs) (hg : g ≠ A) : Is w' g e cs := (h.heap g hg hi.lt).trans hi
theorem Kp.drewN {A : Nat} {w : World} (n : Nat) : Kp A w (w.drewN n) := ⟨below_drewN _ _ _, fun _ _ _ => rfl⟩
theorem Kp.cell {A : Nat} {w : World} (i : Nat) (v : Value) : Kp A w (w.setCell ⟨A, i, none⟩ v) := ⟨(Below.refl _ _).setCell (p := ⟨A, i, none⟩) (Nat.le_refl _) _, fun f hf _ => heap_miss _ _ _ _ (by omega) _⟩
theorem Kp.alloc {A : Nat} {w : World} (hA : A ≤ w.heap.size) (o : Obj) : Kp A w (w.alloc o) := Kp.of_below (below1 w o) (Nat.le_refl _) hA
def Rx {α : Type} (E : World → Nat → Nat → α → List Nat → Prop) (n : Nat) (w : World) (A : Nat) (a : Option Addr) (cap : Nat) (l : List α) : Prop := ∃ F, Sl E n w a cap l F ∧ ∀ f ∈ F, f ≠ A ∧ f < w.heap.size
section
variable {α : Type} {E : World → Nat → Nat → α → List Nat → Prop} {n : Nat} {w w' : World} {A B cap : Nat} {a : Option Addr} {l : List α}
theorem Rx.kp (hE : Loc E n) (h : Rx E n w A a cap l) (hk : Kp A w w') : Rx E n w' A a cap l := by
 obtain ⟨F, h1, h2⟩ := h
 exact ⟨F, h1.agree hE (fun f hf => hk.heap f (h2 f hf).1 (h2 f hf).2), fun f hf => ⟨(h2 f hf).1, Nat.lt_of_lt_of_le (h2 f hf).2 hk.size⟩⟩
theorem Rx.below (hE : Loc E n) (h : Rx E n w A a cap l) {m : Nat} (hb : Below m w w') (hm : w.heap.size ≤ m) : Rx E n w' A a cap l := by
 obtain ⟨F, h1, h2⟩ := h
 exact ⟨F, h1.agree hE (fun f hf => hb.block f (by have := (h2 f hf).2; omega)), fun f hf => ⟨(h2 f hf).1, Nat.lt_of_lt_of_le (h2 f hf).2 hb.size⟩⟩
theorem Rx.rd (h : Rx E n w A a cap l) : Rd E n w w.heap.size a cap l := by
 obtain ⟨F, h1, h2⟩ := h
 exact ⟨F, h1, fun f hf => (h2 f hf).2⟩
theorem Rx.nil (c : Nat) (hc : c ≤ maxLen) : Rx E n w A a c [] := ⟨[], Sl.nil _ _ _ hc, by simp⟩
theorem Rx.get (h : Rx E n w A a cap l) (i : Nat) (hi : i < l.length) :
  ∃ b o F, a = some ⟨b, o, none⟩ ∧ b ≠ A ∧ b < w.heap.size ∧ E w b (o + i * n) l[i] F ∧ ∀ f ∈ F, f ≠ A ∧ f < w.heap.size := by
 obtain ⟨F, ⟨h1, h2, h3, h4⟩, hF⟩ := h
 obtain ⟨b, o, F', ha, rfl, hr⟩ := h4 (by rintro rfl; simp at hi)
 obtain ⟨G, hv, hG⟩ := hr.get i hi
 exact ⟨b, o, G, ha, (hF b (by simp)).1, (hF b (by simp)).2, hv, fun f hf => hF f (by simp [hG f hf])⟩
end
theorem ints_row {w : World} {g : Nat} {e : TypeId} {cs : Array Value} (h : Is w g e cs) : ∀ (l : List Int) (o : Nat), (∀ i (hi : i < l.length), cs[o + i]? = some (.int .i64 l[i])) → (∀ x ∈ l, I64 x) → Row EInt 1 w g o l [] := by
 intro l
 induction l with
 | nil => intro o _ _; rfl
 | cons x r ih =>
  intro o hc hx
  refine ⟨[], [], rfl, ⟨rfl, h.cell o (hc 0 (by simp)), hx x (by simp)⟩, ih (o + 1) (fun i hi => ?_) (fun y hy => hx y (by simp [hy]))⟩
  have := hc (i + 1) (by simpa using hi)
  rw [show o + 1 + i = o + (i + 1) from by omega]; simpa using this
theorem ints_rx {w : World} {g A : Nat} {e : TypeId} (l : List Int) (h : Is w g e (l.map (Value.int .i64)).toArray) (hx : ∀ x ∈ l, I64 x) (hA : g ≠ A) (hl : 0 < l.length) (hm : l.length ≤ maxLen) : Rx EInt 1 w A (some ⟨g, 0, none⟩) l.length l := by
 refine ⟨[g], ⟨Nat.le_refl _, hm, fun h => (by subst h; simp at hl), fun _ => ⟨g, 0, [], rfl, rfl, ints_row h l 0 (fun i hi => by simp [hi]) hx⟩⟩, fun f hf => ?_⟩
 rw [List.mem_singleton] at hf
 subst hf
 exact ⟨hA, h.lt⟩
def EStx (w : World) (b o : Nat) (x : ByteArray) (F : List Nat) : Prop := F = [] ∧ w.cell? ⟨b, o, none⟩ = some (.string x)
theorem EStx.loc : Loc EStx 1 := by
 intro x w w' b o F h hc _
 obtain ⟨h0, h1⟩ := h
 exact ⟨h0, by rw [hc _ (by omega) (by omega)]; exact h1⟩
theorem strs_row {w : World} {g : Nat} {e : TypeId} {cs : Array Value} (h : Is w g e cs) : ∀ (l : List ByteArray) (o : Nat), (∀ i (hi : i < l.length), cs[o + i]? = some (.string l[i])) → Row EStx 1 w g o l [] := by
 intro l
 induction l with
 | nil => intro o _; rfl
 | cons x r ih =>
  intro o hc
  refine ⟨[], [], rfl, ⟨rfl, h.cell o (hc 0 (by simp))⟩, ih (o + 1) (fun i hi => ?_)⟩
  have := hc (i + 1) (by simpa using hi)
  rw [show o + 1 + i = o + (i + 1) from by omega]; simpa using this
theorem strs_rx {w : World} {g A : Nat} {e : TypeId} (l : List ByteArray) (h : Is w g e (l.map Value.string).toArray) (hA : g ≠ A) (hl : 0 < l.length) (hm : l.length ≤ maxLen) : Rx EStx 1 w A (some ⟨g, 0, none⟩) l.length l := by
 refine ⟨[g], ⟨Nat.le_refl _, hm, fun h => (by subst h; simp at hl), fun _ => ⟨g, 0, [], rfl, rfl, strs_row h l 0 (fun i hi => by simp [hi])⟩⟩, fun f hf => ?_⟩
 rw [List.mem_singleton] at hf
 subst hf
 exact ⟨hA, h.lt⟩
def Cur (w : World) (A : Nat) : Prop := ∃ (a : Option Addr) (cap : Nat) (l : List Int) (i : Nat) (h : Int), Is w A 97 #[.slice a l.length cap, .int .i64 i, .int .i64 h] ∧ Rd EByte 1 w A a cap l ∧ i ≤ l.length ∧ I64 h ∧ l.length ≤ 1048576
theorem Cur.lt {w : World} {A : Nat} (h : Cur w A) : A < w.heap.size := by obtain ⟨_, _, _, _, _, h, _⟩ := h; exact h.lt
theorem Cur.below {w w' : World} {A n : Nat} (h : Cur w A) (hb : Below n w w') (hn : A < n) : Cur w' A := by
 obtain ⟨a, cap, l, i, m, h1, h2, h3⟩ := h
 exact ⟨a, cap, l, i, m, h1.below hb hn, h2.below EByte.loc hb (by omega), h3⟩
theorem Cur.next {w : World} {A cap i : Nat} {a : Option Addr} {l : List Int} {h : Int} (n : Nat) (hI : Is w A 97 #[.slice a l.length cap, .int .i64 i, .int .i64 h]) (hR : Rd EByte 1 w A a cap l) (hi : i < l.length) (hh : I64 h) (hl : l.length ≤ 1048576) :
  Cur ((w.drewN n).setCell ⟨A, 1, none⟩ (.int .i64 ((i : Int) + 1))) A ∧ Kp A w ((w.drewN n).setCell ⟨A, 1, none⟩ (.int .i64 ((i : Int) + 1))) := by
 have HI3 := (hI.agree (w' := w.drewN n) rfl).set 1 (.int .i64 ((i : Int) + 1))
 have hk : Kp A w ((w.drewN n).setCell ⟨A, 1, none⟩ (.int .i64 ((i : Int) + 1))) := (Kp.drewN n).trans (Kp.cell 1 _)
 refine ⟨⟨a, cap, l, i + 1, h, ?_, hR.below EByte.loc hk.1 (Nat.le_refl _), by omega, hh, hl⟩, hk⟩
 simpa using HI3
theorem Cur.stay {w : World} {A cap i : Nat} {a : Option Addr} {l : List Int} {h : Int} (n : Nat) (hI : Is w A 97 #[.slice a l.length cap, .int .i64 i, .int .i64 h]) (hR : Rd EByte 1 w A a cap l) (hi : i ≤ l.length) (hh : I64 h) (hl : l.length ≤ 1048576) :
  Cur (w.drewN n) A ∧ Kp A w (w.drewN n) :=
 ⟨⟨a, cap, l, i, h, hI.agree (w' := w.drewN n) rfl, hR.below EByte.loc (below_drewN A w n) (Nat.le_refl _), hi, hh, hl⟩, Kp.drewN n⟩
instance (n : Int) : Decidable (I64 n) := inferInstanceAs (Decidable (_ ∧ _))
theorem bits_and (x m : Int) (h0 : 0 ≤ m) (h1 : m ≤ 1073741823) : 0 ≤ bits BinOp.and IntKind.i64 x m ∧ bits BinOp.and IntKind.i64 x m ≤ m := by
 have hm : (BitVec.ofInt 64 m).toNat = m.toNat := by
  rw [BitVec.toNat_ofInt]
  have : m % (2 ^ 64 : Nat) = m := Int.emod_eq_of_lt h0 (by simp; omega)
  rw [this]
 have h2 : (BitVec.ofInt 64 x &&& BitVec.ofInt 64 m).toNat ≤ m.toNat := by
  rw [BitVec.toNat_and, hm]
  exact Nat.and_le_right
 show 0 ≤ IntKind.wrap .i64 ((BitVec.ofInt 64 x &&& BitVec.ofInt 64 m).toNat : Int) ∧ IntKind.wrap .i64 ((BitVec.ofInt 64 x &&& BitVec.ofInt 64 m).toNat : Int) ≤ m
 generalize (BitVec.ofInt 64 x &&& BitVec.ofInt 64 m).toNat = r at h2
 have : IntKind.wrap .i64 (r : Int) = (r : Int) := by simp [IntKind.wrap, IntKind.bits, IntKind.signed]; omega
 omega
theorem wrap_i64 (n : Int) : I64 (wrap64 n) := by
 unfold I64 wrap64
 constructor <;> (first | omega | (simp; omega) | (split <;> omega))
theorem Kp.set {A g : Nat} {w w' : World} (h : Kp A w w') (hg : w.heap.size ≤ g) (hA : A ≤ g) (i : Nat) (v : Value) : Kp A w (w'.setCell ⟨g, i, none⟩ v) :=
 ⟨h.1.trans ((Below.refl _ _).setCell (p := ⟨g, i, none⟩) hA _), fun f hf hl => (heap_miss _ _ _ _ (by omega) _).trans (h.2 f hf hl)⟩
theorem Cur.set {A g : Nat} {w : World} (h : Cur w A) (hA : A < g) (i : Nat) (v : Value) : Cur (w.setCell ⟨g, i, none⟩ v) A :=
 h.below ((Below.refl g w).setCell (p := ⟨g, i, none⟩) (Nat.le_refl _) _) hA
theorem fin2 {w w4 : World} {A g : Nat} {e : TypeId} {u0 u1 : Value} (v0 v1 : Value) (hI : Is w4 g e #[u0, u1]) (hk : Kp A w w4) (hg : w.heap.size ≤ g) (hc : Cur w4 A) (hA : A < g) :
  ((w4.setCell ⟨g, 0, none⟩ v0).setCell ⟨g, 1, none⟩ v1).cell? ⟨g, 0, none⟩ = some v0 ∧ ((w4.setCell ⟨g, 0, none⟩ v0).setCell ⟨g, 1, none⟩ v1).cell? ⟨g, 1, none⟩ = some v1 ∧
   Cur ((w4.setCell ⟨g, 0, none⟩ v0).setCell ⟨g, 1, none⟩ v1) A ∧ Kp A w ((w4.setCell ⟨g, 0, none⟩ v0).setCell ⟨g, 1, none⟩ v1) := by
 obtain ⟨e0, e1⟩ := ((hI.set 0 v0).set 1 v1).cells2
 exact ⟨e0, e1, (hc.set hA 0 v0).set hA 1 v1, (hk.set hg (by omega) 0 v0).set hg (by omega) 1 v1⟩
theorem fin5 {w w4 : World} {A g : Nat} {e : TypeId} (v0 v1 v2 v3 v4 : Value) (hI : Blk w4 g e 5) (hk : Kp A w w4) (hg : w.heap.size ≤ g) (hc : Cur w4 A) (hA : A < g) :
  (((((w4.setCell ⟨g, 0, none⟩ v0).setCell ⟨g, 1, none⟩ v1).setCell ⟨g, 2, none⟩ v2).setCell ⟨g, 3, none⟩ v3).setCell ⟨g, 4, none⟩ v4).cell? ⟨g, 0, none⟩ = some v0 ∧
  (((((w4.setCell ⟨g, 0, none⟩ v0).setCell ⟨g, 1, none⟩ v1).setCell ⟨g, 2, none⟩ v2).setCell ⟨g, 3, none⟩ v3).setCell ⟨g, 4, none⟩ v4).cell? ⟨g, 1, none⟩ = some v1 ∧
  (((((w4.setCell ⟨g, 0, none⟩ v0).setCell ⟨g, 1, none⟩ v1).setCell ⟨g, 2, none⟩ v2).setCell ⟨g, 3, none⟩ v3).setCell ⟨g, 4, none⟩ v4).cell? ⟨g, 2, none⟩ = some v2 ∧
  (((((w4.setCell ⟨g, 0, none⟩ v0).setCell ⟨g, 1, none⟩ v1).setCell ⟨g, 2, none⟩ v2).setCell ⟨g, 3, none⟩ v3).setCell ⟨g, 4, none⟩ v4).cell? ⟨g, 3, none⟩ = some v3 ∧
  (((((w4.setCell ⟨g, 0, none⟩ v0).setCell ⟨g, 1, none⟩ v1).setCell ⟨g, 2, none⟩ v2).setCell ⟨g, 3, none⟩ v3).setCell ⟨g, 4, none⟩ v4).cell? ⟨g, 4, none⟩ = some v4 ∧
  Cur (((((w4.setCell ⟨g, 0, none⟩ v0).setCell ⟨g, 1, none⟩ v1).setCell ⟨g, 2, none⟩ v2).setCell ⟨g, 3, none⟩ v3).setCell ⟨g, 4, none⟩ v4) A ∧
  Kp A w (((((w4.setCell ⟨g, 0, none⟩ v0).setCell ⟨g, 1, none⟩ v1).setCell ⟨g, 2, none⟩ v2).setCell ⟨g, 3, none⟩ v3).setCell ⟨g, 4, none⟩ v4) ∧
  (∀ f, f ≠ g → (((((w4.setCell ⟨g, 0, none⟩ v0).setCell ⟨g, 1, none⟩ v1).setCell ⟨g, 2, none⟩ v2).setCell ⟨g, 3, none⟩ v3).setCell ⟨g, 4, none⟩ v4).heap[f]? = w4.heap[f]?) ∧
  (((((w4.setCell ⟨g, 0, none⟩ v0).setCell ⟨g, 1, none⟩ v1).setCell ⟨g, 2, none⟩ v2).setCell ⟨g, 3, none⟩ v3).setCell ⟨g, 4, none⟩ v4).heap.size = w4.heap.size := by
 obtain ⟨e0, e1, e2, e3, e4, hb, hh, hs⟩ := out5 hI v0 v1 v2 v3 v4 g (Nat.le_refl _)
 exact ⟨e0, e1, e2, e3, e4, hc.below hb hA, ((((hk.set hg (by omega) 0 v0).set hg (by omega) 1 v1).set hg (by omega) 2 v2).set hg (by omega) 3 v3).set hg (by omega) 4 v4, hh, hs⟩
theorem fin2a {w w4 : World} {A g : Nat} {e : TypeId} {u0 u1 : Value} (v0 v1 : Value) (o : Obj) (hI : Is w4 g e #[u0, u1]) (hk : Kp A w w4) (hg : w.heap.size ≤ g) (hc : Cur w4 A) (hA : A < g) :
  (((w4.setCell ⟨g, 0, none⟩ v0).setCell ⟨g, 1, none⟩ v1).alloc o).cell? ⟨g, 0, none⟩ = some v0 ∧ (((w4.setCell ⟨g, 0, none⟩ v0).setCell ⟨g, 1, none⟩ v1).alloc o).cell? ⟨g, 1, none⟩ = some v1 ∧
   Cur (((w4.setCell ⟨g, 0, none⟩ v0).setCell ⟨g, 1, none⟩ v1).alloc o) A ∧ Kp A w (((w4.setCell ⟨g, 0, none⟩ v0).setCell ⟨g, 1, none⟩ v1).alloc o) := by
 obtain ⟨e0, e1⟩ := (((hI.set 0 v0).set 1 v1).alloc o).cells2
 have hc2 := (hc.set hA 0 v0).set hA 1 v1
 exact ⟨e0, e1, hc2.below (below1 _ o) hc2.lt, ((hk.set hg (by omega) 0 v0).set hg (by omega) 1 v1).trans (Kp.alloc (Nat.le_of_lt hc2.lt) o)⟩
def numV (d : Int × Int) : T := if d.2 = 0 then .mk 3 d.1 0 ⟨#[]⟩ [] else .mk 6 d.1 d.2 ⟨#[]⟩ []
theorem spec_IntVal (n : Int) (w : World) :
  Calls Tryz.prog 97 #[.int .i64 n] w fun e w' => e = .returned (.agg #[.int .i64 3, .int .i64 n, .int .i64 0, .string ⟨#[]⟩, .slice none 0 0]) ∧ Below w.heap.size w w' := by
 go_enter Tryz.func97, Tryz.ntmps97
 go_wp2_with fail
 have q2 := Is.new w #[Value.int IntKind.i64 3, Value.int IntKind.i64 n, Value.int IntKind.i64 0, Value.string ⟨#[]⟩, Value.slice none 0 0] 26
 obtain ⟨e0, e1, e2, e3, e4⟩ := q2.cells5
 refine bodyPost_ret (v := .agg #[.int .i64 3, .int .i64 n, .int .i64 0, .string ⟨#[]⟩, .slice none 0 0]) (by simp [results, Tryz.results97, go_sem, e0, e1, e2, e3, e4]) rfl ⟨rfl, below1 _ _⟩
theorem impl_IntVal (n : Int) (w : World) :
  Calls Tryz.prog 154 #[.int .i64 n] w fun e w' => e = .returned (.agg #[.int .i64 3, .int .i64 n, .int .i64 0, .string ⟨#[]⟩, .slice none 0 0]) ∧ Below w.heap.size w w' := by
 go_enter Tryz.func154, Tryz.ntmps154
 go_wp2_with fail
 have q2 := Is.new w #[Value.int IntKind.i64 3, Value.int IntKind.i64 n, Value.int IntKind.i64 0, Value.string ⟨#[]⟩, Value.slice none 0 0] 26
 obtain ⟨e0, e1, e2, e3, e4⟩ := q2.cells5
 refine bodyPost_ret (v := .agg #[.int .i64 3, .int .i64 n, .int .i64 0, .string ⟨#[]⟩, .slice none 0 0]) (by simp [results, Tryz.results154, go_sem, e0, e1, e2, e3, e4]) rfl ⟨rfl, below1 _ _⟩
theorem spec_TextVal (s : ByteArray) (w : World) :
  Calls Tryz.prog 83 #[.string s] w fun e w' => e = .returned (.agg #[.int .i64 7, .int .i64 0, .int .i64 0, .string s, .slice none 0 0]) ∧ Below w.heap.size w w' := by
 go_enter Tryz.func83, Tryz.ntmps83
 go_wp2_with fail
 have q2 := Is.new w #[Value.int IntKind.i64 7, Value.int IntKind.i64 0, Value.int IntKind.i64 0, Value.string s, Value.slice none 0 0] 26
 obtain ⟨e0, e1, e2, e3, e4⟩ := q2.cells5
 refine bodyPost_ret (v := .agg #[.int .i64 7, .int .i64 0, .int .i64 0, .string s, .slice none 0 0]) (by simp [results, Tryz.results83, go_sem, e0, e1, e2, e3, e4]) rfl ⟨rfl, below1 _ _⟩
set_option maxHeartbeats 1000000 in
theorem spec_NumberVal (n x : Int) (w : World) :
  Calls Tryz.prog 179 #[.agg (cF n x)] w fun e w' => e = .returned (.agg (cV (numV (n, x)) none 0)) ∧ Below w.heap.size w w' := by
 by_cases h : x = 0
 ·subst h
  rw [show numV (n, 0) = .mk 3 n 0 ⟨#[]⟩ [] from rfl]
  go_enter Tryz.func179, Tryz.ntmps179
  go_wp2_with fail
  generalize hW : (w.alloc (Obj.cells (cF n 0) 100)).alloc (Obj.cells zV 26) = W0
  have q2 : Is W0 (w.heap.size + 1) 26 zV := by subst hW; exact Is.new2 _ _ _ _
  have H0 := Lib.hid (show Below w.heap.size w W0 from by subst hW; exact below2 _ _ _)
  have hs0 : W0.heap.size = w.heap.size + 2 := by subst hW; simp
  clear hW
  refine (spec_IntVal n W0).mono ?_
  rintro ee w2 ⟨rfl, hb⟩
  have p2 := q2.below hb (by omega)
  have HB := Lib.hid (H0.out.trans (hb.mono (by omega)))
  have hl1 : w.heap.size + 1 < w2.heap.size := by have := hb.size; omega
  have ff := fun i => p2.frozen i
  obtain ⟨o0, o1, o2, o3, o4⟩ := p2.cells5
  clear hb
  try dsimp only
  repeat (first | go_values | go_skip | go_guarded | go_step | go_upon)
  obtain ⟨e0, e1, e2, e3, e4, hbel, hold, hsz⟩ := out5 p2.blk (.int .i64 3) (.int .i64 n) (.int .i64 0) (.string ⟨#[]⟩) (.slice none 0 0) w.heap.size (by omega)
  refine bodyPost_ret (v := .agg #[.int .i64 3, .int .i64 n, .int .i64 0, .string ⟨#[]⟩, .slice none 0 0]) (by simp [results, Tryz.results179, go_sem, e0, e1, e2, e3, e4]) rfl ⟨rfl, HB.out.trans hbel⟩
 ·have hb : (x == 0) = false := by simpa using h
  rw [show numV (n, x) = .mk 6 n x ⟨#[]⟩ [] from if_neg h]
  go_enter Tryz.func179, Tryz.ntmps179
  go_wp2_with fail
  have q2 : Is ((w.alloc (Obj.cells (cF n x) 100)).alloc (Obj.cells #[Value.int IntKind.i64 6, Value.int IntKind.i64 n, Value.int IntKind.i64 x, Value.string ⟨#[]⟩, Value.slice none 0 0] 26)) (w.heap.size + 1) 26 _ := Is.new2 _ _ _ _
  obtain ⟨e0, e1, e2, e3, e4⟩ := q2.cells5
  refine bodyPost_ret (v := .agg #[.int .i64 6, .int .i64 n, .int .i64 x, .string ⟨#[]⟩, .slice none 0 0]) (by simp [results, Tryz.results179, go_sem, e0, e1, e2, e3, e4]) rfl ⟨rfl, below2 _ _ _⟩
set_option maxHeartbeats 4000000 in
theorem spec_l6FltVal (m x : Int) (w : World) :
  Calls Tryz.prog 107 #[.agg (cF m x)] w fun e w' => e = .returned (.agg #[.int .i64 4, .int .i64 m, .int .i64 x, .string ⟨#[]⟩, .slice none 0 0]) ∧ Below w.heap.size w w' := by
 go_enter Tryz.func107, Tryz.ntmps107
 go_wp2_with fail
 have q2 : Is ((w.alloc (Obj.cells (cF m x) 61)).alloc (Obj.cells #[Value.int IntKind.i64 4, Value.int IntKind.i64 m, Value.int IntKind.i64 x, Value.string ⟨#[]⟩, Value.slice none 0 0] 26)) (w.heap.size + 1) 26 _ := Is.new2 _ _ _ _
 obtain ⟨e0, e1, e2, e3, e4⟩ := q2.cells5
 refine bodyPost_ret (v := .agg #[.int .i64 4, .int .i64 m, .int .i64 x, .string ⟨#[]⟩, .slice none 0 0]) (by simp [results, Tryz.results107, go_sem, e0, e1, e2, e3, e4]) rfl ⟨rfl, below2 _ _ _⟩
set_option maxHeartbeats 2000000 in
theorem spec_l1New (a : Option Addr) (cap B : Nat) (l : List Int) (w : World) (hr : Rd EByte 1 w B a cap l) (hB : B ≤ w.heap.size) (hl : l.length ≤ 1048576) :
  Calls Tryz.prog 60 #[.slice a l.length cap] w fun e w' => ∃ A, e = .returned (.pointer (some ⟨A, 0, none⟩)) ∧ w.heap.size ≤ A ∧ Cur w' A ∧ Below w.heap.size w w' := by
 obtain ⟨hlc, hcap⟩ := hr.len
 have HR := Lib.hid hr; clear hr
 go_enter Tryz.func60, Tryz.ntmps60
 go_wp2_with fail
 go_loopw [3, 4] (fun h i wr => ∃ (m : Int) (j : Nat), h = .int .i64 m ∧ 0 ≤ m ∧ m ≤ 1073741823 ∧ i = .int .i64 j ∧ j ≤ l.length ∧ Below w.heap.size w wr) (fun _ i _ => l.length - (intOf i).toNat)
 case atStart => exact ⟨161919 + l.length, 0, by go_num, by omega, by omega, rfl, by omega, Below.refl _ _⟩
 case round =>
  obtain ⟨m, j, rfl, hm0, hm1, rfl, hj, hb⟩ := hrel
  have hbs := hb.size
  by_cases hgo : j < l.length ∧ j < 4000
  ·obtain ⟨hg1, hg2⟩ := hgo
   obtain ⟨b, o, rfl, hbl, hcell, hx0, hx1⟩ := (HR.out.below EByte.loc hb hB).byte j hg1
   have hg3 : (j : Int) < 4000 := by omega
   have hg4 : (j : Int) < (l.length : Int) := by omega
   have hlb : b < wr.heap.size := by omega
   generalize l[j] = x at *
   have hb2 := bits_and (m * 137 + x + 11) 1073741823 (by decide) (by decide)
   go_wp2_with fail
   go_roundw
   case rel => exact ⟨_, j + 1, rfl, hb2.1, hb2.2, by go_num, by omega, hb⟩
   case measure => simp [intOf]; omega
  ·by_cases hg1 : j < l.length
   ·have hg3 : ¬ (j : Int) < 4000 := by omega
    have hg4 : (j : Int) < (l.length : Int) := by omega
    go_wp2_with fail
    go_ret
    refine ⟨wr.heap.size, rfl, hbs, ⟨a, cap, l, 0, m, Is.new wr _ _, ((HR.out.below EByte.loc hb hB).more (by omega)).below EByte.loc (below1 wr _) (Nat.le_refl _), by omega, ⟨by omega, by omega⟩, hl⟩, hb.trans ((below1 wr _).mono hbs)⟩
   ·have hg4 : ¬ (j : Int) < (l.length : Int) := by omega
    go_wp2_with fail
    go_ret
    refine ⟨wr.heap.size, rfl, hbs, ⟨a, cap, l, 0, m, Is.new wr _ _, ((HR.out.below EByte.loc hb hB).more (by omega)).below EByte.loc (below1 wr _) (Nat.le_refl _), by omega, ⟨by omega, by omega⟩, hl⟩, hb.trans ((below1 wr _).mono hbs)⟩
set_option maxHeartbeats 2000000 in
theorem spec_l1Byte (A : Nat) (w : World) (hc : Cur w A) : Calls Tryz.prog 184 #[.pointer (some ⟨A, 0, none⟩)] w fun e w' => ∃ x : Nat, e = .returned (.int .i64 (x : Int)) ∧ x ≤ 255 ∧ Cur w' A ∧ Kp A w w' := by
 have hlt := hc.lt
 obtain ⟨a, cap, l, i, h, hI, hR, hi, hh, hl⟩ := hc
 obtain ⟨hlc, hcap⟩ := hR.len
 obtain ⟨c0, c1, c2⟩ := hI.cells3
 have ff := fun j => hI.frozen j
 have HR := Lib.hid hR; clear hR
 have HI := Lib.hid hI; clear hI
 go_enter Tryz.func184, Tryz.ntmps184
 go_wp2_with fail
 have h2b := wrap_i64 (wrap64 (h * 6364136223846793005) + 1442695040888963407)
 generalize (wrap64 (wrap64 (h * 6364136223846793005) + 1442695040888963407)) = h2 at *
 have HI2 := Lib.hid (HI.out.set 2 (.int .i64 h2))
 have hk2 : Kp A w (w.setCell ⟨A, 2, none⟩ (.int .i64 h2)) := ⟨(Below.refl _ _).setCell (p := ⟨A, 2, none⟩) (Nat.le_refl _) _, fun f hf _ => heap_miss _ _ _ _ (by omega) _⟩
 have HK2 := Lib.hid hk2; clear hk2
 generalize (w.setCell ⟨A, 2, none⟩ (.int .i64 h2)) = w2 at *
 obtain ⟨d0, d1, d2⟩ := HI2.out.cells3
 have fg := fun j => HI2.out.frozen j
 go_quiet (fail)
 have hx1 := bits_and (bits BinOp.xor IntKind.i64 (h2 / 8589934592) (h2 / 140737488355328)) 255 (by decide) (by decide)
 generalize bits BinOp.and IntKind.i64 (bits BinOp.xor IntKind.i64 (h2 / 8589934592) (h2 / 140737488355328)) 255 = x1 at *
 by_cases hgo : i < l.length
 ·obtain ⟨b, o, rfl, hbl, hcell, hy0, hy1⟩ := (HR.out.below EByte.loc HK2.out.1 (Nat.le_refl _)).byte i hgo
  have hgz : (i : Int) < (l.length : Int) := by omega
  have hlb : b < w2.heap.size := by have := HK2.out.size; omega
  have hlA : A < w2.heap.size := by have := HK2.out.size; omega
  generalize l[i] = y at *
  go_wp2_with fail
  go_quiet (fail)
  go_wp2_with fail
  go_quiet (fail)
  go_wp2_with fail
  have hx2 := bits_and (x1 + y) 255 (by decide) (by decide)
  generalize bits BinOp.and IntKind.i64 (x1 + y) 255 = x2 at *
  obtain ⟨u, rfl⟩ : ∃ u : Nat, x2 = u := ⟨x2.toNat, by omega⟩
  go_ret
  have hh := fun k => Cur.next (w := w2) k HI2.out (HR.out.below EByte.loc HK2.out.1 (Nat.le_refl _)) hgo h2b hl
  exact ⟨u, rfl, by omega, (hh _).1, HK2.out.trans (hh _).2⟩
 ·have hgz : ¬ (i : Int) < (l.length : Int) := by omega
  obtain ⟨u, rfl⟩ : ∃ u : Nat, x1 = u := ⟨x1.toNat, by omega⟩
  go_wp2_with fail
  go_quiet (fail)
  go_wp2_with fail
  go_ret
  have hcc := (Cur.stay (w := w2) 0 HI2.out (HR.out.below EByte.loc HK2.out.1 (Nat.le_refl _)) hi h2b hl).1
  exact ⟨u, rfl, by omega, (hcc.below (below_drewN (A + 1) w2 _) (by omega)).below (below_drewN (A + 1) _ _) (by omega), HK2.out.trans ((Kp.drewN _).trans (Kp.drewN _))⟩
theorem emod_le_self (a n : Int) (h : 0 ≤ a) (hn : 0 < n) : a % n ≤ a := by
 have h1 := Int.mul_ediv_add_emod a n
 have h2 : 0 ≤ a / n := Int.ediv_nonneg h (by omega)
 have h3 := Int.mul_nonneg (show 0 ≤ n by omega) h2
 omega
set_option maxHeartbeats 2000000 in
theorem spec_l1Below (A : Nat) (n : Int) (w : World) (hc : Cur w A) (hn : I64 n) : Calls Tryz.prog 116 #[.pointer (some ⟨A, 0, none⟩), .int .i64 n] w fun e w' => ∃ x : Nat, e = .returned (.int .i64 (x : Int)) ∧ ((x : Int) < n ∨ x = 0) ∧ x ≤ 16777215 ∧ Cur w' A ∧ Kp A w w' := by
 have HC := Lib.hid hc; clear hc
 obtain ⟨hn0, hn1⟩ := hn
 by_cases h0 : n ≤ 0
 ·go_enter Tryz.func116, Tryz.ntmps116
  go_wp2_with fail
  go_ret
  exact ⟨0, rfl, Or.inr rfl, by omega, HC.out, Beside.refl _ _ _⟩
 by_cases h1 : n ≤ 256
 ·go_enter Tryz.func116, Tryz.ntmps116
  go_wp2_with fail
  refine (spec_l1Byte A w HC.out).mono ?_
  rintro e w2 ⟨x, rfl, hx, hc2, hk2⟩
  have hne : (n == 0) = false := by simp; omega
  go_wp2_with fail
  go_ret
  have hm := Int.emod_lt_of_pos (x : Int) (show 0 < n by omega)
  have hm0 := Int.emod_nonneg (x : Int) (show n ≠ 0 by omega)
  obtain ⟨u, hu⟩ : ∃ u : Nat, (x : Int) % n = u := ⟨((x : Int) % n).toNat, by omega⟩
  exact ⟨u, by rw [← hu]; rfl, Or.inl (by omega), by omega, hc2, hk2⟩
 ·go_enter Tryz.func116, Tryz.ntmps116
  go_wp2_with fail
  refine (spec_l1Byte A w HC.out).mono ?_
  rintro e w2 ⟨x, rfl, hx, hc2, hk2⟩
  have HC2 := Lib.hid hc2; have HK2 := Lib.hid hk2; clear hc2 hk2
  go_wp2_with fail
  refine (spec_l1Byte A w2 HC2.out).mono ?_
  rintro e w3 ⟨y, rfl, hy, hc3, hk3⟩
  have HC3 := Lib.hid hc3; have HK3 := Lib.hid (HK2.out.trans hk3); clear hc3 hk3
  go_wp2_with fail
  refine (spec_l1Byte A w3 HC3.out).mono ?_
  rintro e w4 ⟨z, rfl, hz, hc4, hk4⟩
  have HC4 := Lib.hid hc4; have HK4 := Lib.hid (HK3.out.trans hk4); clear hc4 hk4
  go_wp2_with fail
  go_ret
  have hm := Int.emod_lt_of_pos ((x : Int) * 65536 + y * 256 + z) (show 0 < n by omega)
  have hm0 := Int.emod_nonneg ((x : Int) * 65536 + y * 256 + z) (show n ≠ 0 by omega)
  have hm1 := emod_le_self ((x : Int) * 65536 + y * 256 + z) n (by omega) (by omega)
  obtain ⟨u, hu⟩ : ∃ u : Nat, ((x : Int) * 65536 + y * 256 + z) % n = u := ⟨(((x : Int) * 65536 + y * 256 + z) % n).toNat, by omega⟩
  exact ⟨u, by rw [← hu]; rfl, Or.inl (by omega), by omega, HC4.out, HK4.out⟩
set_option maxHeartbeats 2000000 in
theorem spec_l1Once (A : Nat) (n : Int) (w : World) (hc : Cur w A) (hn : I64 n) : Calls Tryz.prog 64 #[.pointer (some ⟨A, 0, none⟩), .int .i64 n] w fun e w' => ∃ b : Bool, e = .returned (.bool b) ∧ Cur w' A ∧ Kp A w w' := by
 have HC := Lib.hid hc; clear hc
 go_enter Tryz.func64, Tryz.ntmps64
 go_wp2_with fail
 refine (spec_l1Below A n w HC.out hn).mono ?_
 rintro e w2 ⟨x, rfl, hx, hx2, hc2, hk2⟩
 go_wp2_with fail
 go_ret
 exact ⟨_, rfl, hc2, hk2⟩
set_option maxHeartbeats 2000000 in
theorem spec_l1Int (A : Nat) (a : Option Addr) (cap : Nat) (l : List Int) (w : World) (hc : Cur w A) (hr : Rx EInt 1 w A a cap l) (hl : 0 < l.length) (hm : l.length ≤ 1000) :
  Calls Tryz.prog 94 #[.pointer (some ⟨A, 0, none⟩), .slice a l.length cap] w fun e w' => ∃ x, x ∈ l ∧ I64 x ∧ e = .returned (.int .i64 x) ∧ Cur w' A ∧ Kp A w w' := by
 have HC := Lib.hid hc; clear hc
 obtain ⟨hlc, hcap⟩ := hr.rd.len
 go_enter Tryz.func94, Tryz.ntmps94
 go_wp2_with fail
 refine (spec_l1Below A _ w HC.out ⟨by omega, by omega⟩).mono ?_
 rintro e w2 ⟨x, rfl, hx, hx2, hc2, hk2⟩
 have hxl : x < l.length := by omega
 have hxz : (x : Int) < (l.length : Int) := by omega
 obtain ⟨b, o, F, rfl, hb1, hb2, ⟨_, hcell, hi⟩, _⟩ := (hr.kp EInt.loc hk2).get x hxl
 rw [Nat.mul_one] at hcell
 go_wp2_with fail
 go_ret
 exact ⟨l[x], List.getElem_mem hxl, hi, rfl, hc2, hk2⟩
set_option maxHeartbeats 2000000 in
theorem spec_l1Str (A : Nat) (a : Option Addr) (cap : Nat) (l : List ByteArray) (w : World) (hc : Cur w A) (hr : Rx EStx 1 w A a cap l) (hl : 0 < l.length) (hm : l.length ≤ 1000) :
  Calls Tryz.prog 92 #[.pointer (some ⟨A, 0, none⟩), .slice a l.length cap] w fun e w' => ∃ x, x ∈ l ∧ e = .returned (.string x) ∧ Cur w' A ∧ Kp A w w' := by
 have HC := Lib.hid hc; clear hc
 obtain ⟨hlc, hcap⟩ := hr.rd.len
 go_enter Tryz.func92, Tryz.ntmps92
 go_wp2_with fail
 refine (spec_l1Below A _ w HC.out ⟨by omega, by omega⟩).mono ?_
 rintro e w2 ⟨x, rfl, hx, hx2, hc2, hk2⟩
 have hxl : x < l.length := by omega
 have hxz : (x : Int) < (l.length : Int) := by omega
 obtain ⟨b, o, F, rfl, hb1, hb2, ⟨_, hcell⟩, _⟩ := (hr.kp EStx.loc hk2).get x hxl
 rw [Nat.mul_one] at hcell
 go_wp2_with fail
 go_ret
 exact ⟨l[x], List.getElem_mem hxl, rfl, hc2, hk2⟩
theorem spec_l1IntL (A : Nat) (l : List Int) (e : TypeId) (w : World) (hc : Cur w A) (hx : ∀ x ∈ l, I64 x) (hl : 0 < l.length) (hm : l.length ≤ 1000) :
  Calls Tryz.prog 94 #[.pointer (some ⟨A, 0, none⟩), .slice (some ⟨w.heap.size, 0, none⟩) l.length l.length] (w.alloc (.cells (l.map (Value.int .i64)).toArray e)) fun e w' => ∃ x, x ∈ l ∧ I64 x ∧ e = .returned (.int .i64 x) ∧ Cur w' A ∧ Kp A w w' := by
 have hk := Kp.alloc (w := w) (Nat.le_of_lt hc.lt) (.cells (l.map (Value.int .i64)).toArray e)
 refine (spec_l1Int A _ _ l _ (hc.below (below1 w _) hc.lt) (ints_rx l (Is.new w _ e) hx (by have := hc.lt; omega) hl (by unfold maxLen; omega)) hl hm).mono ?_
 rintro ee w2 ⟨x, h1, h2, h3, h4, h5⟩
 exact ⟨x, h1, h2, h3, h4, hk.trans h5⟩
theorem spec_l1StrL (A : Nat) (l : List ByteArray) (e : TypeId) (w : World) (hc : Cur w A) (hl : 0 < l.length) (hm : l.length ≤ 1000) :
  Calls Tryz.prog 92 #[.pointer (some ⟨A, 0, none⟩), .slice (some ⟨w.heap.size, 0, none⟩) l.length l.length] (w.alloc (.cells (l.map Value.string).toArray e)) fun e w' => ∃ x, x ∈ l ∧ e = .returned (.string x) ∧ Cur w' A ∧ Kp A w w' := by
 have hk := Kp.alloc (w := w) (Nat.le_of_lt hc.lt) (.cells (l.map Value.string).toArray e)
 refine (spec_l1Str A _ _ l _ (hc.below (below1 w _) hc.lt) (strs_rx l (Is.new w _ e) (by have := hc.lt; omega) hl (by unfold maxLen; omega)) hl hm).mono ?_
 rintro ee w2 ⟨x, h1, h3, h4, h5⟩
 exact ⟨x, h1, h3, h4, hk.trans h5⟩
end Go.Proofs.YtggdenkmohnijaaGreatDoor
