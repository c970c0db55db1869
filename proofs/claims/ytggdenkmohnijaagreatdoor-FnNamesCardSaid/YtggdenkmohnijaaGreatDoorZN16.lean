/- Texts of this proof, merged: LawsE, DrwB. No condition beyond what each theorem states. -/
import Derived.Test.YtggdenkmohnijaaGreatDoorZN15
set_option linter.unusedSimpArgs false
set_option linter.unnecessarySimpa false
namespace Go.Proofs.YtggdenkmohnijaaGreatDoor
open Go.ChangeShapes Go.WideShapes Go.ChangeAt Go.RowKit Go.Joins
set_option linter.unusedVariables false
set_option maxRecDepth 100000
set_option maxHeartbeats 1000000 in
theorem laws_sameVal : ∀ t u : T, ∀ (a a' : Option Addr) (cap cap' B : Nat) (w : World), R w B a cap t.l → R w B a' cap' u.l → B ≤ w.heap.size →
    Calls Tryz.prog 24 #[.agg (cV t a cap), .agg (cV u a' cap')] w fun e w' => e = .returned (.bool (sameT t u)) ∧ Below w.heap.size w w' := by
  intro t
  induction t using T.ind with
  | h k n x s l ih =>
    intro u a a' cap cap' B w hr hr' hB
    have IH := Lib.hid ih; clear ih
    obtain ⟨k', n', x', s', l'⟩ := u
    simp only [cV, T.k, T.n, T.x, T.s, T.l] at hr hr' ⊢
    obtain ⟨hl1, hl2⟩ := hr.len
    obtain ⟨hm1, hm2⟩ := hr'.len
    have HR := Lib.hid hr; clear hr
    have HR' := Lib.hid hr'; clear hr'
    have H3 := Lib.hid (below2 w (.cells #[Value.int IntKind.i64 k, Value.int IntKind.i64 n, Value.int IntKind.i64 x, Value.string s, Value.slice a l.length cap] 26) (.cells #[Value.int IntKind.i64 k', Value.int IntKind.i64 n', Value.int IntKind.i64 x', Value.string s', Value.slice a' l'.length cap'] 26))
    by_cases hk : k = k'
    case neg =>
      have h1 : (k == k') = false := by simp [hk]
      have h2 : (k != k') = true := by simp [hk]
      have HE := Lib.hid (show sameT (T.mk k n x s l) (T.mk k' n' x' s' l') = false from sameT_false (fun e => hk (by injection e)))
      clear hk
      go_enter Tryz.func24, Tryz.ntmps24
      go_wp2_with fail
      go_ret
      exact ⟨ret_b HE.out.symm, H3.out⟩
    subst hk
    by_cases hk : n = n'
    case neg =>
      have h1 : (n == n') = false := by simp [hk]
      have h2 : (n != n') = true := by simp [hk]
      have HE := Lib.hid (show sameT (T.mk k n x s l) (T.mk k n' x' s' l') = false from sameT_false (fun e => hk (by injection e)))
      clear hk
      go_enter Tryz.func24, Tryz.ntmps24
      go_wp2_with fail
      go_ret
      exact ⟨ret_b HE.out.symm, H3.out⟩
    subst hk
    by_cases hk : x = x'
    case neg =>
      have h1 : (x == x') = false := by simp [hk]
      have h2 : (x != x') = true := by simp [hk]
      have HE := Lib.hid (show sameT (T.mk k n x s l) (T.mk k n x' s' l') = false from sameT_false (fun e => hk (by injection e)))
      clear hk
      go_enter Tryz.func24, Tryz.ntmps24
      go_wp2_with fail
      go_ret
      exact ⟨ret_b HE.out.symm, H3.out⟩
    subst hk
    by_cases hk : s = s'
    case neg =>
      have h1 := bytes_ne hk
      have h2 : (s.toList != s'.toList) = true := by simp [bne, h1]
      have HE := Lib.hid (show sameT (T.mk k n x s l) (T.mk k n x s' l') = false from sameT_false (fun e => hk (by injection e)))
      clear hk
      go_enter Tryz.func24, Tryz.ntmps24
      go_wp2_with fail
      go_ret
      exact ⟨ret_b HE.out.symm, H3.out⟩
    subst hk
    by_cases hk : l.length = l'.length
    case neg =>
      have h1 : ((l.length : Int) == l'.length) = false := by rw [beq_eq_false_iff_ne]; omega
      have h2 : ((l.length : Int) != l'.length) = true := by simp [bne, h1]
      have HE := Lib.hid (show sameT (T.mk k n x s l) (T.mk k n x s l') = false from sameT_false (fun e => hk (by injection e with _ _ _ _ e5; rw [e5])))
      clear hk
      go_enter Tryz.func24, Tryz.ntmps24
      go_wp2_with fail
      go_ret
      exact ⟨ret_b HE.out.symm, H3.out⟩
    have h1 : ((l.length : Int) == l'.length) = true := by simp [hk]
    have h2 : ((l.length : Int) != l'.length) = false := by simp [hk]
    have HL := Lib.hid hk; clear hk
    have q1 : Is ((w.alloc (.cells #[Value.int IntKind.i64 k, Value.int IntKind.i64 n, Value.int IntKind.i64 x, Value.string s, Value.slice a l.length cap] 26)).alloc (.cells #[Value.int IntKind.i64 k, Value.int IntKind.i64 n, Value.int IntKind.i64 x, Value.string s, Value.slice a' l'.length cap'] 26)) w.heap.size 26 _ := (Is.new _ _ _).alloc _
    have q2 := Is.new2 w (.cells #[Value.int IntKind.i64 k, Value.int IntKind.i64 n, Value.int IntKind.i64 x, Value.string s, Value.slice a l.length cap] 26) #[Value.int IntKind.i64 k, Value.int IntKind.i64 n, Value.int IntKind.i64 x, Value.string s, Value.slice a' l'.length cap'] 26
    have hs : w.heap.size + 2 ≤ ((w.alloc (.cells #[Value.int IntKind.i64 k, Value.int IntKind.i64 n, Value.int IntKind.i64 x, Value.string s, Value.slice a l.length cap] 26)).alloc (.cells #[Value.int IntKind.i64 k, Value.int IntKind.i64 n, Value.int IntKind.i64 x, Value.string s, Value.slice a' l'.length cap'] 26)).heap.size := by simp
    go_enter Tryz.func24, Tryz.ntmps24
    go_wp2_with fail
    generalize hW : (w.alloc (.cells #[Value.int IntKind.i64 k, Value.int IntKind.i64 n, Value.int IntKind.i64 x, Value.string s, Value.slice a l.length cap] 26)).alloc (.cells #[Value.int IntKind.i64 k, Value.int IntKind.i64 n, Value.int IntKind.i64 x, Value.string s, Value.slice a' l'.length cap'] 26) = W0 at q1 q2 H3 hs ⊢
    clear hW
    go_loopw [5] (fun i wr => ∃ (j : Nat), j ≤ l.length ∧ i = .int .i64 j ∧ Hid (l.take j = l'.take j) ∧ Below W0.heap.size W0 wr) (fun i _ => l.length - (intOf i).toNat)
    case atStart => exact ⟨0, Nat.zero_le _, rfl, rfl, Below.refl _ _⟩
    case round =>
      obtain ⟨j, hj, rfl, HP, hb⟩ := hrel
      have hbs := hb.size
      obtain ⟨c0, c1, c2, c3, c4⟩ := (q1.below hb (by omega)).cells5
      obtain ⟨e0, e1, e2, e3, e4⟩ := (q2.below hb (by omega)).cells5
      by_cases hlt : j < l.length
      · have hlt' : j < l'.length := by have := HL.out; omega
        have hR := (HR.out.below H3.out hB).below hb (by omega)
        have hR' := (HR'.out.below H3.out hB).below hb (by omega)
        obtain ⟨b, o, a2, cap2, rfl, hbl, d0, d1, d2, d3, d4, hwf, hq⟩ := hR.get j hlt
        obtain ⟨b', o', a3, cap3, rfl, hbl', d0', d1', d2', d3', d4', hwf', hq'⟩ := hR'.get j hlt'
        have l1 : b < wr.heap.size := by omega
        have l2 : b' < wr.heap.size := by omega
        have l3 : w.heap.size < wr.heap.size := by omega
        have l4 : w.heap.size + 1 < wr.heap.size := by omega
        clear hR hR' hwf hwf'
        go_wp2_with fail
        go_region_held3 (fun w' => (∀ b o, b < wr.heap.size → w'.cell? ⟨b, o, none⟩ = wr.cell? ⟨b, o, none⟩) ∧ Below (wr.heap.size) wr w') (first | exact ⟨fun _ _ _ => rfl, (Below.refl _ _).drew⟩ | assumption | exact keep_step (by assumption) (Below.drew (Below.refl _ _)) (Nat.le_refl _) | exact keep_step (by assumption) (by assumption) (by first | omega | (simp only [World.size_drew]; omega) | (simp only [size_alloc]; omega) | (simp only [World.size_drew, size_alloc]; omega) | (have := (‹(_ ∧ Below (wr.heap.size) wr _)›).2.size; first | omega | (simp only [World.size_drew]; omega) | (simp only [size_alloc]; omega) | (simp only [World.size_drew, size_alloc]; omega) | (simp only [World.size_drew] at this; omega) | (simp only [size_alloc] at this; omega) | (simp only [World.size_drew, size_alloc] at this; omega))) | exact keep_step (by assumption) (below1 _ _) (by first | omega | (simp only [World.size_drew]; omega) | (simp only [size_alloc]; omega) | (simp only [World.size_drew, size_alloc]; omega) | (have := (‹(_ ∧ Below (wr.heap.size) wr _)›).2.size; first | omega | (simp only [World.size_drew]; omega) | (simp only [size_alloc]; omega) | (simp only [World.size_drew, size_alloc]; omega) | (simp only [World.size_drew] at this; omega) | (simp only [size_alloc] at this; omega) | (simp only [World.size_drew, size_alloc] at this; omega)))) (first | (go_at_call 24; refine (IH.out l[j] (List.getElem_mem hlt) l'[j] _ _ _ _ B _ ?_ ?_ (by have := (‹_ ∧ Below (wr.heap.size) wr _›).2.size; omega)).mono ?_; (exact hq.below (‹_ ∧ Below (wr.heap.size) wr _›).2 (by omega)); (exact hq'.below (‹_ ∧ Below (wr.heap.size) wr _›).2 (by omega)); rintro e w2 ⟨rfl, hb2⟩))
        have K := Lib.hid (hb.trans ((‹_ ∧ Below (wr.heap.size) wr _›).2.mono hbs))
        clear hb2
        by_cases he : l[j] = l'[j]
        · have HE := Lib.hid (show l.take (j + 1) = l'.take (j + 1) from by rw [take_snoc l j hlt, take_snoc l' j hlt', HP.out, he])
          have hd := sameT_true he
          clear he
          rw [hd]
          go_wp2_with fail
          go_roundw
          case rel => exact ⟨j + 1, by omega, by go_num, HE.out, K.out⟩
          case measure => simp [intOf]; omega
        · have HE := Lib.hid (show sameT (T.mk k n x s l) (T.mk k n x s l') = false from sameT_false (fun e => he (by injection e with _ _ _ _ e5; subst e5; rfl)))
          have hd := sameT_false he
          clear he
          rw [hd]
          go_wp2_with fail
          go_ret
          exact ⟨ret_b HE.out.symm, H3.out.trans (K.out.mono (by omega))⟩
      · have HJ := Lib.hid (show sameT (T.mk k n x s l) (T.mk k n x s l') = true from sameT_true (by have := HP.out; have h2 := HL.out; rw [List.take_of_length_le (by omega), List.take_of_length_le (by omega)] at this; rw [this]))
        go_wp2_with fail
        go_ret
        exact ⟨ret_b HJ.out.symm, H3.out.trans (hb.mono (by omega))⟩
theorem laws_big (a : Option Addr) (cap : Nat) (l : List Int) (w : World) : Calls Tryz.prog 9 #[.slice a l.length cap] w fun e w' => e = .returned (.bool (decide (1048576 < l.length))) ∧ w' = w := by
  by_cases h : 1048576 < l.length
  · have hz : (1048576 : Int) < (l.length : Int) := by omega
    go_enter Tryz.func9, Tryz.ntmps9
    go_wp2_with fail
    go_ret
    exact ⟨by simp [h], rfl⟩
  · have hz : ¬ (1048576 : Int) < (l.length : Int) := by omega
    go_enter Tryz.func9, Tryz.ntmps9
    go_wp2_with fail
    go_ret
    exact ⟨by simp [h], rfl⟩
abbrev Kp (A : Nat) (w w' : World) : Prop := Beside A (A + 1) w w'
theorem Kp.of_below {A n : Nat} {w w' : World} (h : Below n w w') (hn : w.heap.size ≤ n) (hA : A ≤ n) : Kp A w w' := Beside.of_below h hn hA
theorem Kp.size {A : Nat} {w w' : World} (h : Kp A w w') : w.heap.size ≤ w'.heap.size := h.1.size
theorem Kp.heap {A : Nat} {w w' : World} (h : Kp A w w') (f : Nat) (hf : f ≠ A) (hl : f < w.heap.size) : w'.heap[f]? = w.heap[f]? := by
  rcases Nat.lt_or_ge f A with h1 | h1
  · exact h.1.block f h1
  · exact h.2 f (by omega) hl
theorem Kp.is {A g : Nat} {w w' : World} {e : TypeId} {cs : Array Value} (h : Kp A w w') (hi : Is w g e cs) (hg : g ≠ A) : Is w' g e cs := (h.heap g hg hi.lt).trans hi
theorem Kp.drewN {A : Nat} {w : World} (n : Nat) : Kp A w (w.drewN n) := ⟨below_drewN _ _ _, fun _ _ _ => rfl⟩
theorem Kp.cell {A : Nat} {w : World} (i : Nat) (v : Value) : Kp A w (w.setCell ⟨A, i, none⟩ v) := ⟨(Below.refl _ _).setCell (p := ⟨A, i, none⟩) (Nat.le_refl _) _, fun f hf _ => heap_miss _ _ _ _ (by omega) _⟩
theorem Kp.alloc {A : Nat} {w : World} (hA : A ≤ w.heap.size) (o : Obj) : Kp A w (w.alloc o) := Kp.of_below (below1 w o) (Nat.le_refl _) hA
def Rx {α : Type} (E : World → Nat → Nat → α → List Nat → Prop) (n : Nat) (w : World) (A : Nat) (a : Option Addr) (cap : Nat) (l : List α) : Prop := ∃ F, Sl E n w a cap l F ∧ ∀ f ∈ F, f ≠ A ∧ f < w.heap.size
section
variable {α : Type} {E : World → Nat → Nat → α → List Nat → Prop} {n : Nat} {w w' : World} {A B cap : Nat} {a : Option Addr} {l : List α}
theorem Rx.kp (hE : Loc E n) (h : Rx E n w A a cap l) (hk : Kp A w w') : Rx E n w' A a cap l := by
  obtain ⟨F, h1, h2⟩ := h
  exact ⟨F, h1.agree hE (fun f hf => hk.heap f (h2 f hf).1 (h2 f hf).2), fun f hf => ⟨(h2 f hf).1, Nat.lt_of_lt_of_le (h2 f hf).2 hk.size⟩⟩
theorem Rx.below (hE : Loc E n) (h : Rx E n w A a cap l) {m : Nat} (hb : Below m w w') (hm : w.heap.size ≤ m) : Rx E n w' A a cap l := by
  obtain ⟨F, h1, h2⟩ := h
  exact ⟨F, h1.agree hE (fun f hf => hb.block f (by have := (h2 f hf).2; omega)), fun f hf => ⟨(h2 f hf).1, Nat.lt_of_lt_of_le (h2 f hf).2 hb.size⟩⟩
theorem Rx.rd (h : Rx E n w A a cap l) : Rd E n w w.heap.size a cap l := by
  obtain ⟨F, h1, h2⟩ := h
  exact ⟨F, h1, fun f hf => (h2 f hf).2⟩
theorem Rx.nil (c : Nat) (hc : c ≤ maxLen) : Rx E n w A a c [] := ⟨[], Sl.nil _ _ _ hc, by simp⟩
theorem Rx.get (h : Rx E n w A a cap l) (i : Nat) (hi : i < l.length) :
    ∃ b o F, a = some ⟨b, o, none⟩ ∧ b ≠ A ∧ b < w.heap.size ∧ E w b (o + i * n) l[i] F ∧ ∀ f ∈ F, f ≠ A ∧ f < w.heap.size := by
  obtain ⟨F, ⟨h1, h2, h3, h4⟩, hF⟩ := h
  obtain ⟨b, o, F', ha, rfl, hr⟩ := h4 (by rintro rfl; simp at hi)
  obtain ⟨G, hv, hG⟩ := hr.get i hi
  exact ⟨b, o, G, ha, (hF b (by simp)).1, (hF b (by simp)).2, hv, fun f hf => hF f (by simp [hG f hf])⟩
end
theorem ints_row {w : World} {g : Nat} {e : TypeId} {cs : Array Value} (h : Is w g e cs) : ∀ (l : List Int) (o : Nat), (∀ i (hi : i < l.length), cs[o + i]? = some (.int .i64 l[i])) → (∀ x ∈ l, I64 x) → Row EInt 1 w g o l [] := by
  intro l
  induction l with
  | nil => intro o _ _; rfl
  | cons x r ih =>
    intro o hc hx
    refine ⟨[], [], rfl, ⟨rfl, h.cell o (hc 0 (by simp)), hx x (by simp)⟩, ih (o + 1) (fun i hi => ?_) (fun y hy => hx y (by simp [hy]))⟩
    have := hc (i + 1) (by simpa using hi)
    rw [show o + 1 + i = o + (i + 1) from by omega]; simpa using this
theorem ints_rx {w : World} {g A : Nat} {e : TypeId} (l : List Int) (h : Is w g e (l.map (Value.int .i64)).toArray) (hx : ∀ x ∈ l, I64 x) (hA : g ≠ A) (hl : 0 < l.length) (hm : l.length ≤ maxLen) : Rx EInt 1 w A (some ⟨g, 0, none⟩) l.length l := by
  refine ⟨[g], ⟨Nat.le_refl _, hm, fun h => (by subst h; simp at hl), fun _ => ⟨g, 0, [], rfl, rfl, ints_row h l 0 (fun i hi => by simp [hi]) hx⟩⟩, fun f hf => ?_⟩
  rw [List.mem_singleton] at hf
  subst hf
  exact ⟨hA, h.lt⟩
def EStx (w : World) (b o : Nat) (x : ByteArray) (F : List Nat) : Prop := F = [] ∧ w.cell? ⟨b, o, none⟩ = some (.string x)
theorem EStx.loc : Loc EStx 1 := by
  intro x w w' b o F h hc _
  obtain ⟨h0, h1⟩ := h
  exact ⟨h0, by rw [hc _ (by omega) (by omega)]; exact h1⟩
theorem strs_row {w : World} {g : Nat} {e : TypeId} {cs : Array Value} (h : Is w g e cs) : ∀ (l : List ByteArray) (o : Nat), (∀ i (hi : i < l.length), cs[o + i]? = some (.string l[i])) → Row EStx 1 w g o l [] := by
  intro l
  induction l with
  | nil => intro o _; rfl
  | cons x r ih =>
    intro o hc
    refine ⟨[], [], rfl, ⟨rfl, h.cell o (hc 0 (by simp))⟩, ih (o + 1) (fun i hi => ?_)⟩
    have := hc (i + 1) (by simpa using hi)
    rw [show o + 1 + i = o + (i + 1) from by omega]; simpa using this
theorem strs_rx {w : World} {g A : Nat} {e : TypeId} (l : List ByteArray) (h : Is w g e (l.map Value.string).toArray) (hA : g ≠ A) (hl : 0 < l.length) (hm : l.length ≤ maxLen) : Rx EStx 1 w A (some ⟨g, 0, none⟩) l.length l := by
  refine ⟨[g], ⟨Nat.le_refl _, hm, fun h => (by subst h; simp at hl), fun _ => ⟨g, 0, [], rfl, rfl, strs_row h l 0 (fun i hi => by simp [hi])⟩⟩, fun f hf => ?_⟩
  rw [List.mem_singleton] at hf
  subst hf
  exact ⟨hA, h.lt⟩
def Cur (w : World) (A : Nat) : Prop := ∃ (a : Option Addr) (cap : Nat) (l : List Int) (i : Nat) (h : Int), Is w A 97 #[.slice a l.length cap, .int .i64 i, .int .i64 h] ∧ Rd EByte 1 w A a cap l ∧ i ≤ l.length ∧ I64 h ∧ l.length ≤ 1048576
theorem Cur.lt {w : World} {A : Nat} (h : Cur w A) : A < w.heap.size := by obtain ⟨_, _, _, _, _, h, _⟩ := h; exact h.lt
theorem Cur.below {w w' : World} {A n : Nat} (h : Cur w A) (hb : Below n w w') (hn : A < n) : Cur w' A := by
  obtain ⟨a, cap, l, i, m, h1, h2, h3⟩ := h
  exact ⟨a, cap, l, i, m, h1.below hb hn, h2.below EByte.loc hb (by omega), h3⟩
theorem Cur.next {w : World} {A cap i : Nat} {a : Option Addr} {l : List Int} {h : Int} (n : Nat) (hI : Is w A 97 #[.slice a l.length cap, .int .i64 i, .int .i64 h]) (hR : Rd EByte 1 w A a cap l) (hi : i < l.length) (hh : I64 h) (hl : l.length ≤ 1048576) :
    Cur ((w.drewN n).setCell ⟨A, 1, none⟩ (.int .i64 ((i : Int) + 1))) A ∧ Kp A w ((w.drewN n).setCell ⟨A, 1, none⟩ (.int .i64 ((i : Int) + 1))) := by
  have HI3 := (hI.agree (w' := w.drewN n) rfl).set 1 (.int .i64 ((i : Int) + 1))
  have hk : Kp A w ((w.drewN n).setCell ⟨A, 1, none⟩ (.int .i64 ((i : Int) + 1))) := (Kp.drewN n).trans (Kp.cell 1 _)
  refine ⟨⟨a, cap, l, i + 1, h, ?_, hR.below EByte.loc hk.1 (Nat.le_refl _), by omega, hh, hl⟩, hk⟩
  simpa using HI3
theorem Cur.stay {w : World} {A cap i : Nat} {a : Option Addr} {l : List Int} {h : Int} (n : Nat) (hI : Is w A 97 #[.slice a l.length cap, .int .i64 i, .int .i64 h]) (hR : Rd EByte 1 w A a cap l) (hi : i ≤ l.length) (hh : I64 h) (hl : l.length ≤ 1048576) :
    Cur (w.drewN n) A ∧ Kp A w (w.drewN n) :=
  ⟨⟨a, cap, l, i, h, hI.agree (w' := w.drewN n) rfl, hR.below EByte.loc (below_drewN A w n) (Nat.le_refl _), hi, hh, hl⟩, Kp.drewN n⟩
instance (n : Int) : Decidable (I64 n) := inferInstanceAs (Decidable (_ ∧ _))
theorem bits_and (x m : Int) (h0 : 0 ≤ m) (h1 : m ≤ 1073741823) : 0 ≤ bits BinOp.and IntKind.i64 x m ∧ bits BinOp.and IntKind.i64 x m ≤ m := by
  have hm : (BitVec.ofInt 64 m).toNat = m.toNat := by
    rw [BitVec.toNat_ofInt]
    have : m % (2 ^ 64 : Nat) = m := Int.emod_eq_of_lt h0 (by simp; omega)
    rw [this]
  have h2 : (BitVec.ofInt 64 x &&& BitVec.ofInt 64 m).toNat ≤ m.toNat := by
    rw [BitVec.toNat_and, hm]
    exact Nat.and_le_right
  show 0 ≤ IntKind.wrap .i64 ((BitVec.ofInt 64 x &&& BitVec.ofInt 64 m).toNat : Int) ∧ IntKind.wrap .i64 ((BitVec.ofInt 64 x &&& BitVec.ofInt 64 m).toNat : Int) ≤ m
  generalize (BitVec.ofInt 64 x &&& BitVec.ofInt 64 m).toNat = r at h2
  have : IntKind.wrap .i64 (r : Int) = (r : Int) := by simp [IntKind.wrap, IntKind.bits, IntKind.signed]; omega
  omega
theorem wrap_i64 (n : Int) : I64 (wrap64 n) := by
  unfold I64 wrap64
  constructor <;> (first | omega | (simp; omega) | (split <;> omega))
theorem Kp.set {A g : Nat} {w w' : World} (h : Kp A w w') (hg : w.heap.size ≤ g) (hA : A ≤ g) (i : Nat) (v : Value) : Kp A w (w'.setCell ⟨g, i, none⟩ v) :=
  ⟨h.1.trans ((Below.refl _ _).setCell (p := ⟨g, i, none⟩) hA _), fun f hf hl => (heap_miss _ _ _ _ (by omega) _).trans (h.2 f hf hl)⟩
theorem Cur.set {A g : Nat} {w : World} (h : Cur w A) (hA : A < g) (i : Nat) (v : Value) : Cur (w.setCell ⟨g, i, none⟩ v) A :=
  h.below ((Below.refl g w).setCell (p := ⟨g, i, none⟩) (Nat.le_refl _) _) hA
theorem fin2 {w w4 : World} {A g : Nat} {e : TypeId} {u0 u1 : Value} (v0 v1 : Value) (hI : Is w4 g e #[u0, u1]) (hk : Kp A w w4) (hg : w.heap.size ≤ g) (hc : Cur w4 A) (hA : A < g) :
    ((w4.setCell ⟨g, 0, none⟩ v0).setCell ⟨g, 1, none⟩ v1).cell? ⟨g, 0, none⟩ = some v0 ∧ ((w4.setCell ⟨g, 0, none⟩ v0).setCell ⟨g, 1, none⟩ v1).cell? ⟨g, 1, none⟩ = some v1 ∧
      Cur ((w4.setCell ⟨g, 0, none⟩ v0).setCell ⟨g, 1, none⟩ v1) A ∧ Kp A w ((w4.setCell ⟨g, 0, none⟩ v0).setCell ⟨g, 1, none⟩ v1) := by
  obtain ⟨e0, e1⟩ := ((hI.set 0 v0).set 1 v1).cells2
  exact ⟨e0, e1, (hc.set hA 0 v0).set hA 1 v1, (hk.set hg (by omega) 0 v0).set hg (by omega) 1 v1⟩
theorem fin5 {w w4 : World} {A g : Nat} {e : TypeId} (v0 v1 v2 v3 v4 : Value) (hI : Blk w4 g e 5) (hk : Kp A w w4) (hg : w.heap.size ≤ g) (hc : Cur w4 A) (hA : A < g) :
    (((((w4.setCell ⟨g, 0, none⟩ v0).setCell ⟨g, 1, none⟩ v1).setCell ⟨g, 2, none⟩ v2).setCell ⟨g, 3, none⟩ v3).setCell ⟨g, 4, none⟩ v4).cell? ⟨g, 0, none⟩ = some v0 ∧
    (((((w4.setCell ⟨g, 0, none⟩ v0).setCell ⟨g, 1, none⟩ v1).setCell ⟨g, 2, none⟩ v2).setCell ⟨g, 3, none⟩ v3).setCell ⟨g, 4, none⟩ v4).cell? ⟨g, 1, none⟩ = some v1 ∧
    (((((w4.setCell ⟨g, 0, none⟩ v0).setCell ⟨g, 1, none⟩ v1).setCell ⟨g, 2, none⟩ v2).setCell ⟨g, 3, none⟩ v3).setCell ⟨g, 4, none⟩ v4).cell? ⟨g, 2, none⟩ = some v2 ∧
    (((((w4.setCell ⟨g, 0, none⟩ v0).setCell ⟨g, 1, none⟩ v1).setCell ⟨g, 2, none⟩ v2).setCell ⟨g, 3, none⟩ v3).setCell ⟨g, 4, none⟩ v4).cell? ⟨g, 3, none⟩ = some v3 ∧
    (((((w4.setCell ⟨g, 0, none⟩ v0).setCell ⟨g, 1, none⟩ v1).setCell ⟨g, 2, none⟩ v2).setCell ⟨g, 3, none⟩ v3).setCell ⟨g, 4, none⟩ v4).cell? ⟨g, 4, none⟩ = some v4 ∧
    Cur (((((w4.setCell ⟨g, 0, none⟩ v0).setCell ⟨g, 1, none⟩ v1).setCell ⟨g, 2, none⟩ v2).setCell ⟨g, 3, none⟩ v3).setCell ⟨g, 4, none⟩ v4) A ∧
    Kp A w (((((w4.setCell ⟨g, 0, none⟩ v0).setCell ⟨g, 1, none⟩ v1).setCell ⟨g, 2, none⟩ v2).setCell ⟨g, 3, none⟩ v3).setCell ⟨g, 4, none⟩ v4) ∧
    (∀ f, f ≠ g → (((((w4.setCell ⟨g, 0, none⟩ v0).setCell ⟨g, 1, none⟩ v1).setCell ⟨g, 2, none⟩ v2).setCell ⟨g, 3, none⟩ v3).setCell ⟨g, 4, none⟩ v4).heap[f]? = w4.heap[f]?) ∧
    (((((w4.setCell ⟨g, 0, none⟩ v0).setCell ⟨g, 1, none⟩ v1).setCell ⟨g, 2, none⟩ v2).setCell ⟨g, 3, none⟩ v3).setCell ⟨g, 4, none⟩ v4).heap.size = w4.heap.size := by
  obtain ⟨e0, e1, e2, e3, e4, hb, hh, hs⟩ := out5 hI v0 v1 v2 v3 v4 g (Nat.le_refl _)
  exact ⟨e0, e1, e2, e3, e4, hc.below hb hA, ((((hk.set hg (by omega) 0 v0).set hg (by omega) 1 v1).set hg (by omega) 2 v2).set hg (by omega) 3 v3).set hg (by omega) 4 v4, hh, hs⟩
theorem fin2a {w w4 : World} {A g : Nat} {e : TypeId} {u0 u1 : Value} (v0 v1 : Value) (o : Obj) (hI : Is w4 g e #[u0, u1]) (hk : Kp A w w4) (hg : w.heap.size ≤ g) (hc : Cur w4 A) (hA : A < g) :
    (((w4.setCell ⟨g, 0, none⟩ v0).setCell ⟨g, 1, none⟩ v1).alloc o).cell? ⟨g, 0, none⟩ = some v0 ∧ (((w4.setCell ⟨g, 0, none⟩ v0).setCell ⟨g, 1, none⟩ v1).alloc o).cell? ⟨g, 1, none⟩ = some v1 ∧
      Cur (((w4.setCell ⟨g, 0, none⟩ v0).setCell ⟨g, 1, none⟩ v1).alloc o) A ∧ Kp A w (((w4.setCell ⟨g, 0, none⟩ v0).setCell ⟨g, 1, none⟩ v1).alloc o) := by
  obtain ⟨e0, e1⟩ := (((hI.set 0 v0).set 1 v1).alloc o).cells2
  have hc2 := (hc.set hA 0 v0).set hA 1 v1
  exact ⟨e0, e1, hc2.below (below1 _ o) hc2.lt, ((hk.set hg (by omega) 0 v0).set hg (by omega) 1 v1).trans (Kp.alloc (Nat.le_of_lt hc2.lt) o)⟩
end Go.Proofs.YtggdenkmohnijaaGreatDoor
