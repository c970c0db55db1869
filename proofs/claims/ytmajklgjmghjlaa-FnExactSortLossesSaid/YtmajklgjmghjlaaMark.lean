/- Contracts and lemmas for the proofs of this seat: Mark. No condition beyond those stated. -/
import Derived.Test.YtmajklgjmghjlaaRows
import Derived.WalkKit
import Derived.ProofKit
import Derived.OpenShut
import Derived.Handy
import Derived.Lib.Hide
import Derived.Lib.SmallJoins
import Derived.Deep.QuietTactic
import Derived.BigQuiet
import Derived.Test.YtmajklgjmghjlaaBase
import Derived.Test.YtmajklgjmghjlaaGen
import Derived.Test.YtmajklgjmghjlaaKit
namespace Go.Proofs.Ytmajklgjmghjlaa
open Go.ChangeShapes Go.WideShapes Go.ChangeAt Go.RowKit Go.Joins
set_option linter.unusedVariables false
set_option maxRecDepth 100000
/-! ### Writing into what one holds: only the blocks of F change. -/
structure Touch (F : List Nat) (w w' : World) : Prop where
  os : w'.os = w.os
  tape : w'.tape = w.tape
  output : w'.output = w.output
  size : w.heap.size ≤ w'.heap.size
  block : ∀ f, f < w.heap.size → f ∉ F → w'.heap[f]? = w.heap[f]?
  unf : ∀ f, Unf w f → Unf w' f
theorem Touch.refl (F : List Nat) (w : World) : Touch F w w := ⟨rfl, rfl, rfl, Nat.le_refl _, fun _ _ _ => rfl, fun _ h => h⟩
theorem Touch.trans {F : List Nat} {w w1 w2 : World} (h : Touch F w w1) (k : Touch F w1 w2) : Touch F w w2 :=
  ⟨k.os.trans h.os, k.tape.trans h.tape, k.output.trans h.output, Nat.le_trans h.size k.size, fun f hf hn => (k.block f (Nat.lt_of_lt_of_le hf h.size) hn).trans (h.block f hf hn), fun f hf => k.unf f (h.unf f hf)⟩
theorem Touch.mono {F G : List Nat} {w w' : World} (h : Touch F w w') (hs : ∀ f ∈ F, f ∈ G) : Touch G w w' := ⟨h.os, h.tape, h.output, h.size, fun f hf hn => h.block f hf (fun hh => hn (hs f hh)), h.unf⟩
theorem Touch.of_below {F : List Nat} {w w' : World} (h : Below w.heap.size w w') : Touch F w w' :=
  ⟨h.os, h.tape, h.output, h.size, fun f hf _ => h.block f hf, fun f hf => hf.agree (h.block f hf.lt)⟩
theorem Touch.set (w : World) (b o : Nat) (v : Value) : Touch [b] w (w.setCell ⟨b, o, none⟩ v) := by
  refine ⟨rfl, rfl, rfl, by rw [size_set]; exact Nat.le_refl _, fun f _ hn => heap_miss w b o f (by simpa using hn) v, fun f ⟨c, e, h⟩ => ?_⟩
  by_cases hf : f = b
  · subst hf
    exact ⟨c.setIfInBounds o v, e, by simp [World.setCell, Array.getElem?_modify, h]⟩
  · exact ⟨c, e, (heap_miss w b o f hf v).trans h⟩
theorem Touch.below {F : List Nat} {w w' : World} {lo : Nat} (h : Touch F w w') (hl : lo ≤ w.heap.size) (hF : ∀ f ∈ F, lo ≤ f) : Below lo w w' :=
  ⟨h.os, h.tape, h.output, h.size, fun f hf => h.block f (by omega) (fun hm => by have := hF f hm; omega)⟩
theorem Touch.beside {F : List Nat} {w w' : World} {lo hi : Nat} (h : Touch F w w') (hl : lo ≤ w.heap.size) (hF : ∀ f ∈ F, lo ≤ f ∧ f < hi) : Beside lo hi w w' :=
  ⟨h.below hl (fun f hf => (hF f hf).1), fun f hf hs => h.block f hs (fun hm => by have := (hF f hm).2; omega)⟩
section
variable {α : Type} {E : World → Nat → Nat → α → List Nat → Prop} {n : Nat}
theorem set_mid (A : List α) (x y : α) (B : List α) : (A ++ x :: B).set A.length y = A ++ y :: B := by simp
theorem Row.split {w : World} {b : Nat} {A B : List α} {o : Nat} {F : List Nat} (h : Row E n w b o (A ++ B) F) : ∃ F1 F2, F = F1 ++ F2 ∧ Row E n w b o A F1 ∧ Row E n w b (o + A.length * n) B F2 := by
  induction A generalizing o F with
  | nil => exact ⟨[], F, rfl, rfl, by simpa using h⟩
  | cons x A ih =>
    obtain ⟨G1, G2, rfl, h1, h2⟩ := h
    obtain ⟨F1, F2, rfl, k1, k2⟩ := ih h2
    refine ⟨G1 ++ F1, F2, by simp, ⟨G1, F1, rfl, h1, k1⟩, ?_⟩
    rw [List.length_cons, Nat.add_mul, show o + (A.length * n + 1 * n) = o + n + A.length * n from by omega]
    exact k2
theorem Row.join {w : World} {b : Nat} {A B : List α} {o : Nat} {F1 F2 : List Nat} (h1 : Row E n w b o A F1) (h2 : Row E n w b (o + A.length * n) B F2) : Row E n w b o (A ++ B) (F1 ++ F2) := by
  induction A generalizing o F1 with
  | nil => obtain rfl : F1 = [] := h1; simpa using h2
  | cons x A ih =>
    obtain ⟨G1, G2, rfl, k1, k2⟩ := h1
    rw [List.append_assoc]
    refine ⟨G1, G2 ++ F2, rfl, k1, ih k2 ?_⟩
    rw [List.length_cons, Nat.add_mul, show o + (A.length * n + 1 * n) = o + n + A.length * n from by omega] at h2
    exact h2
/-- One element is written anew, in its own cells and in its own blocks. -/
theorem Row.put (hE : Loc E n) {w w' : World} {b o : Nat} {A B : List α} {x : α} {F : List Nat} (h : Row E n w b o (A ++ x :: B) F) (hF : F.Nodup) (hbF : b ∉ F) :
    ∃ G, (∀ f ∈ G, f ∈ F) ∧ E w b (o + A.length * n) x G ∧ G.Nodup ∧
      ∀ {w' : World} {y : α}, E w' b (o + A.length * n) y G → (∀ i, i < o + A.length * n ∨ o + A.length * n + n ≤ i → w'.cell? ⟨b, i, none⟩ = w.cell? ⟨b, i, none⟩) → (∀ f ∈ F, f ∉ G → w'.heap[f]? = w.heap[f]?) → Row E n w' b o (A ++ y :: B) F := by
  obtain ⟨F1, F2, rfl, h1, h2⟩ := h.split
  obtain ⟨G, F3, rfl, k1, k2⟩ := h2
  obtain ⟨n1, n2, n3⟩ := List.nodup_append.1 hF
  obtain ⟨m1, m2, m3⟩ := List.nodup_append.1 n2
  refine ⟨G, fun f hf => by simp [hf], k1, m1, fun {w' y} hy hc hf => ?_⟩
  refine Row.join (h1.agree hE _ (fun i _ hi => hc i (by omega)) (fun f hm => hf f (by simp [hm]) (fun hg => n3 f hm f (by simp [hg]) rfl))) ?_
  refine ⟨G, F3, rfl, hy, k2.agree hE _ (fun i hi _ => hc i (by omega)) (fun f hm => hf f (by simp [hm]) (fun hg => m3 f hg f hm rfl))⟩
/-- Marks: every element is written anew, from k on; c: how far an element leads. -/
def mkL (me : α → Int → α) (c : α → Nat) : List α → Int → List α
  | [], _ => []
  | x :: r, k => me x k :: mkL me c r (k + c x)
def cL' (c : α → Nat) : List α → Nat | [] => 0 | x :: r => c x + cL' c r
variable {me : α → Int → α} {c : α → Nat}
theorem mkL_length (l : List α) (k : Int) : (mkL me c l k).length = l.length := by
  induction l generalizing k with
  | nil => rfl
  | cons x r ih => simp [mkL, ih]
theorem mkL_snoc (l : List α) (x : α) (k : Int) : mkL me c (l ++ [x]) k = mkL me c l k ++ [me x (k + cL' c l)] := by
  induction l generalizing k with
  | nil => simp [mkL, cL']
  | cons y r ih => simp only [List.cons_append, mkL, ih, cL']; rw [show k + (c y : Int) + (cL' c r : Nat) = k + ((c y + cL' c r : Nat) : Int) from by omega]
theorem cL'_append (a b : List α) : cL' c (a ++ b) = cL' c a + cL' c b := by
  induction a with
  | nil => simp [cL']
  | cons x r ih => simp [cL', ih, Nat.add_assoc]
theorem cL'_take_succ (l : List α) (j : Nat) (h : j < l.length) : cL' c (l.take (j + 1)) = cL' c (l.take j) + c l[j] := by
  rw [take_snoc l j h, cL'_append]; simp [cL']
theorem cL'_take_le (l : List α) (j : Nat) : cL' c (l.take j) ≤ cL' c l := by
  have := cL'_append (c := c) (l.take j) (l.drop j)
  rw [List.take_append_drop] at this; omega
theorem mkL_get (l : List α) (j : Nat) (k : Int) (h : j < l.length) (h' : j < (mkL me c l k).length) : (mkL me c l k)[j] = me l[j] (k + cL' c (l.take j)) := by
  induction l generalizing j k with
  | nil => simp at h
  | cons x r ih =>
    cases j with
    | zero => simp [mkL, cL']
    | succ j => simp only [mkL, List.getElem_cons_succ, List.take_succ_cons, cL']; rw [ih j _ (by simpa using h)]; congr 1; omega
/-- What the list looks like when the first j elements are marked. -/
def half (me : α → Int → α) (c : α → Nat) (l : List α) (k : Int) (j : Nat) : List α := mkL me c (l.take j) k ++ l.drop j
theorem half_zero (l : List α) (k : Int) : half me c l k 0 = l := by simp [half, mkL]
theorem half_all (l : List α) (k : Int) : half me c l k l.length = mkL me c l k := by simp [half]
theorem half_length (l : List α) (k : Int) (j : Nat) : (half me c l k j).length = l.length := by
  simp only [half, List.length_append, mkL_length, List.length_take, List.length_drop]; omega
theorem half_here (l : List α) (k : Int) (j : Nat) (h : j < l.length) : half me c l k j = mkL me c (l.take j) k ++ l[j] :: l.drop (j + 1) := by
  rw [half, List.drop_eq_getElem_cons h]
theorem half_succ (l : List α) (k : Int) (j : Nat) (h : j < l.length) : half me c l k (j + 1) = mkL me c (l.take j) k ++ me l[j] (k + cL' c (l.take j)) :: l.drop (j + 1) := by
  rw [half, take_snoc l j h, mkL_snoc, List.append_assoc]; rfl
theorem half_pre (l : List α) (k : Int) (j : Nat) (h : j < l.length) : (mkL me c (l.take j) k).length = j := by rw [mkL_length, List.length_take]; omega
/-- A slice of blocks of its own. -/
def OwF (E : World → Nat → Nat → α → List Nat → Prop) (n : Nat) (w : World) (a : Option Addr) (cap : Nat) (l : List α) (F : List Nat) : Prop := Sl E n w a cap l F ∧ F.Nodup ∧ ∀ f ∈ F, Unf w f
theorem OwF.len {w : World} {a : Option Addr} {cap : Nat} {l : List α} {F : List Nat} (h : OwF E n w a cap l F) : l.length ≤ cap ∧ cap ≤ 9223372036854775807 := by
  have := h.1.2.1; unfold maxLen at this
  exact ⟨h.1.1, by omega⟩
theorem Ow.toF {w : World} {lo hi cap : Nat} {a : Option Addr} {l : List α} (h : Ow E n w lo hi a cap l) : ∃ F, OwF E n w a cap l F ∧ ∀ f ∈ F, lo ≤ f ∧ f < hi := by
  obtain ⟨F, h1, h2, h3⟩ := h
  exact ⟨F, ⟨h1, h2, fun f hf => (h3 f hf).2.2⟩, fun f hf => ⟨(h3 f hf).1, (h3 f hf).2.1⟩⟩
theorem OwF.toOw {w : World} {lo hi cap : Nat} {a : Option Addr} {l : List α} {F : List Nat} (h : OwF E n w a cap l F) (hF : ∀ f ∈ F, lo ≤ f ∧ f < hi) : Ow E n w lo hi a cap l := ⟨F, h.1, h.2.1, fun f hf => ⟨(hF f hf).1, (hF f hf).2, h.2.2 f hf⟩⟩
theorem OwF.start {w : World} {a : Option Addr} {cap : Nat} {l : List α} {F : List Nat} (h : OwF E n w a cap l F) (k : Int) : OwF E n w a cap (half me c l k 0) F := by rw [half_zero]; exact h
theorem OwF.done {w : World} {a : Option Addr} {cap j : Nat} {l : List α} {F : List Nat} {k : Int} (h : OwF E n w a cap (half me c l k j) F) (hj : l.length = j) : OwF E n w a cap (mkL me c l k) F := by rw [← hj, half_all] at h; exact h
/-- The element that is marked next: where it lies, and what is to be shown of the stores. -/
theorem OwF.next (hE : Loc E n) {w : World} {a : Option Addr} {cap j : Nat} {l : List α} {F : List Nat} {k : Int} (h : OwF E n w a cap (half me c l k j) F) (hj : j < l.length) :
    ∃ b o G, a = some ⟨b, o, none⟩ ∧ b ∈ F ∧ Unf w b ∧ b ∉ G ∧ (∀ f ∈ G, f ∈ F) ∧ G.Nodup ∧ E w b (o + j * n) l[j] G ∧
      ∀ w' : World, E w' b (o + j * n) (me l[j] (k + cL' c (l.take j))) G → (∀ i, i < o + j * n ∨ o + j * n + n ≤ i → w'.cell? ⟨b, i, none⟩ = w.cell? ⟨b, i, none⟩) → Touch (b :: G) w w' → OwF E n w' a cap (half me c l k (j + 1)) F := by
  obtain ⟨⟨h1, h2, h3, h4⟩, h5, h6⟩ := h
  have hne : half me c l k j ≠ [] := by intro e; have := half_length (me := me) (c := c) l k j; rw [e] at this; simp at this; omega
  obtain ⟨b, o, F', rfl, rfl, hr⟩ := h4 hne
  rw [half_here l k j hj] at hr
  obtain ⟨hb, hn⟩ := List.nodup_cons.1 h5
  have hp := half_pre (me := me) (c := c) l k j hj
  obtain ⟨G, g1, g2, g3, g4⟩ := Row.put hE (w' := w) hr hn hb
  rw [hp] at g2
  refine ⟨b, o, G, rfl, by simp, h6 b (by simp), fun hg => hb (g1 b hg), fun f hf => by simp [g1 f hf], g3, g2, fun w' hy hc ht => ?_⟩
  refine ⟨⟨by rw [half_length] at h1 ⊢; exact h1, h2, fun e => ?_, fun _ => ⟨b, o, F', rfl, rfl, ?_⟩⟩, h5, fun f hf => ht.unf f (h6 f hf)⟩
  · have := half_length (me := me) (c := c) l k (j + 1); rw [e] at this; simp at this; omega
  · rw [half_succ l k j hj]
    refine g4 (by rw [hp]; exact hy) (by rw [hp]; exact hc) (fun f hf hg => ht.block f (h6 f (by simp [hf])).lt ?_)
    rw [List.mem_cons]
    rintro (rfl | hh)
    · exact hb hf
    · exact hg hh
end
theorem Unf.frozen {w : World} {b : Nat} (hu : Unf w b) (i : Nat) : w.frozen? ⟨b, i, none⟩ = false := by
  obtain ⟨c, e, hc⟩ := hu
  simp only [World.frozen?, hc]; simp
theorem hit_of {w : World} {b i : Nat} {x : Value} (hu : Unf w b) (h : w.cell? ⟨b, i, none⟩ = some x) (v : Value) : (w.setCell ⟨b, i, none⟩ v).cell? ⟨b, i, none⟩ = some v := by
  obtain ⟨c, e, hc⟩ := hu
  have hlt : i < c.size := by
    simp only [World.cell?, hc] at h
    simp at h
    exact (Array.getElem?_eq_some_iff.1 h).1
  simp [World.setCell, World.cell?, Array.getElem?_modify, hc, hlt]
theorem Unf.set {w : World} {b : Nat} (hu : Unf w b) (b' o : Nat) (v : Value) : Unf (w.setCell ⟨b', o, none⟩ v) b := (Touch.set w b' o v).unf b hu
theorem Touch.one {F : List Nat} {w0 w : World} (h : Touch F w0 w) {b : Nat} (hb : b ∈ F) (o : Nat) (v : Value) : Touch F w0 (w.setCell ⟨b, o, none⟩ v) := h.trans ((Touch.set w b o v).mono (by simpa using hb))
def meS (_ : St) (k : Int) : St := (k, (k + 1) % 3 == 0)
theorem cLS (l : List St) : cL' (fun _ : St => 2) l = 2 * l.length := by
  induction l with
  | nil => rfl
  | cons x r ih => simp [cL', ih]; omega
theorem markStepS_calls (l : List St) (a : Option Addr) (cap : Nat) (k : Int) (F : List Nat) (w : World) (h : OwF EStep 2 w a cap l F) (h0 : 0 ≤ k) (h1 : k + 2 * l.length ≤ 9223372036854775806) :
    Calls Try.prog 19 #[.slice a l.length cap, .int .i64 k] w fun e w' => e = .returned (.int .i64 (k + cL' (fun _ : St => 2) l)) ∧ OwF EStep 2 w' a cap (mkL meS (fun _ => 2) l k) F ∧ Touch F w w' := by
  obtain ⟨hl1, hl2⟩ := h.len
  have HC := Lib.hid cLS
  go_enter Try.func19, Try.ntmps19
  go_wp2_with fail
  go_loopw [1, 5] (fun q i wr => ∃ (j : Nat), j ≤ l.length ∧ i = .int .i64 j ∧ q = .int .i64 (k + 2 * j) ∧ OwF EStep 2 wr a cap (half meS (fun _ => 2) l k j) F ∧ Touch F w wr) (fun _ i _ => l.length - (intOf i).toNat)
  case atStart => exact ⟨0, Nat.zero_le _, rfl, by go_num, h.start k, Touch.refl _ _⟩
  case round =>
    obtain ⟨j, hj, rfl, rfl, ho, ht⟩ := hrel
    by_cases hlt : j < l.length
    · obtain ⟨b, o, G, rfl, hbF, hu, hbG, hG, hGn, ⟨rfl, d0, d1, di⟩, hstep⟩ := ho.next EStep.loc hlt
      have hfz := fun i => hu.frozen i
      have ht2 := (ht.one hbF (o + j * 2) (.int .i64 (k + 2 * j))).one hbF (o + j * 2 + 1) (.bool ((k + 2 * j + 1) % 3 == 0))
      have hs2 := hstep (st2 wr b (o + j * 2) (.int .i64 (k + 2 * j)) (.bool ((k + 2 * j + 1) % 3 == 0))) (by
        have e2 : meS l[j] (k + (cL' (fun _ : St => 2) (l.take j) : Nat)) = (k + 2 * j, (k + 2 * j + 1) % 3 == 0) := by unfold meS; rw [HC.out, List.length_take, Nat.min_eq_left (by omega)]; simp
        rw [e2]
        refine ⟨rfl, ?_, ?_, by unfold I64; constructor <;> omega⟩
        · unfold st2; rw [cell_miss _ _ _ _ (by omega)]; exact hit_of hu d0 _
        · unfold st2; exact hit_of (hu.set _ _ _) (by rw [cell_miss _ _ _ _ (by omega)]; exact d1) _) (fun i hi => st2_miss i (by omega)) (((Touch.refl _ _).one (by simp) _ _).one (by simp) _ _)
      clear hstep
      have HS := Lib.hid hs2; clear hs2
      simp only [st2] at HS
      go_wp2_with fail
      go_roundw
      case rel => exact ⟨j + 1, by omega, by go_num, by go_num, HS.out, ht2⟩
      case measure => simp [intOf]; omega
    · have hjj : l.length = j := by omega
      have HJ := Lib.hid hjj; clear hjj
      go_wp2_with fail
      go_ret
      exact ⟨ret_i (by rw [HC.out, HJ.out]; omega), ho.done HJ.out, ht⟩
theorem heldStepS_calls (l : List St) (a : Option Addr) (cap : Nat) (k : Int) (B : Nat) (w : World) (hr : Rd EStep 2 w B a cap (mkL meS (fun _ => 2) l k)) (hB : B ≤ w.heap.size) (h0 : 0 ≤ k) (h1 : k + 2 * l.length ≤ 9223372036854775806) :
    Calls Try.prog 20 #[.slice a l.length cap, .int .i64 k] w fun e w' => e = .returned (.int .i64 (k + cL' (fun _ : St => 2) l)) ∧ Below w.heap.size w w' := by
  obtain ⟨hl1, hl2⟩ := hr.len
  rw [mkL_length] at hl1
  have HC := Lib.hid cLS
  go_enter Try.func20, Try.ntmps20
  go_wp2_with fail
  go_loopw [1, 5] (fun q i wr => ∃ (j : Nat), j ≤ l.length ∧ i = .int .i64 j ∧ q = .int .i64 (k + 2 * j) ∧ Below w.heap.size w wr) (fun _ i _ => l.length - (intOf i).toNat)
  case atStart => exact ⟨0, Nat.zero_le _, rfl, by go_num, Below.refl _ _⟩
  case round =>
    obtain ⟨j, hj, rfl, rfl, hb⟩ := hrel
    by_cases hlt : j < l.length
    · obtain ⟨b, o, rfl, hbl, d0, d1, di⟩ := (hr.below EStep.loc hb hB).step j (by rw [mkL_length]; exact hlt)
      have e2 : meS l[j] (k + (cL' (fun _ : St => 2) (l.take j) : Nat)) = (k + 2 * j, (k + 2 * j + 1) % 3 == 0) := by unfold meS; rw [HC.out, List.length_take, Nat.min_eq_left (by omega)]; simp
      rw [mkL_get l j k hlt, e2] at d0 d1
      clear e2
      go_wp2_with fail
      go_roundw
      case rel => exact ⟨j + 1, by omega, by go_num, by go_num, hb⟩
      case measure => simp [intOf]; omega
    · have hjj : l.length = j := by omega
      have HJ := Lib.hid hjj; clear hjj
      go_wp2_with fail
      go_ret
      exact ⟨ret_i (by rw [HC.out, HJ.out]; omega), hb⟩
def meLo (x : Lo) (k : Int) : Lo := (k, mkL meS (fun _ => 2) x.2 (k + 1))
def costLo (x : Lo) : Nat := 1 + 2 * x.2.length
theorem costLo_le (l : List Lo) : cL' costLo l ≤ 2 * szLo l := by
  induction l with
  | nil => simp [cL']
  | cons x r ih => simp [cL', costLo, szLo] at ih ⊢; omega
theorem markLossS_calls (l : List Lo) (a : Option Addr) (cap : Nat) (k : Int) (F : List Nat) (w : World) (h : OwF ELoss 2 w a cap l F) (h0 : 0 ≤ k) (h1 : k + cL' costLo l ≤ 9223372036854775806) :
    Calls Try.prog 9 #[.slice a l.length cap, .int .i64 k] w fun e w' => e = .returned (.int .i64 (k + cL' costLo l)) ∧ OwF ELoss 2 w' a cap (mkL meLo costLo l k) F ∧ Touch F w w' := by
  obtain ⟨hl1, hl2⟩ := h.len
  go_enter Try.func9, Try.ntmps9
  go_wp2_with fail
  go_loopw [1, 5] (fun q i wr => ∃ (j : Nat), j ≤ l.length ∧ i = .int .i64 j ∧ q = .int .i64 (k + cL' costLo (l.take j)) ∧ OwF ELoss 2 wr a cap (half meLo costLo l k j) F ∧ Touch F w wr) (fun _ i _ => l.length - (intOf i).toNat)
  case atStart => exact ⟨0, Nat.zero_le _, rfl, by simp [cL'], h.start k, Touch.refl _ _⟩
  case round =>
    obtain ⟨j, hj, rfl, rfl, ho, ht⟩ := hrel
    by_cases hlt : j < l.length
    · obtain ⟨b, o, G, rfl, hbF, hu, hbG, hG, hGn, ⟨d0, di, a', cap', d1, hsl⟩, hstep⟩ := ho.next ELoss.loc hlt
      have hfz := fun i => hu.frozen i
      have hcs := cL'_take_succ (c := costLo) l j hlt
      have hcl := cL'_take_le (c := costLo) l (j + 1)
      have hco : costLo l[j] = 1 + 2 * l[j].2.length := rfl
      generalize hK : (cL' costLo (l.take j)) = K at *
      have ht2 := ht.one hbF (o + j * 2) (.int .i64 (k + K))
      have hfu := fun f (hf : f ∈ G) => (ho.2.2 f (hG f hf)).set b (o + j * 2) (.int .i64 (k + K))
      have hin : OwF EStep 2 (wr.setCell ⟨b, o + j * 2, none⟩ (.int .i64 (k + K))) a' cap' l[j].2 G := ⟨hsl.agree EStep.loc (fun f hf => heap_miss _ _ _ _ (by rintro rfl; exact hbG hf) _), hGn, hfu⟩
      have HS := Lib.hid hstep; clear hstep
      have hk1 : k + K + 1 + 2 * l[j].2.length ≤ 9223372036854775806 := by omega
      have HSC := Lib.hid hcs; clear hcs
      go_wp2_with fail
      refine (markStepS_calls l[j].2 a' cap' (k + K + 1) G _ hin (by omega) (by omega)).mono ?_
      rintro e w2 ⟨rfl, ho2, ht3⟩
      rw [cLS]
      have ht4 := ht2.trans (ht3.mono hG)
      have hs2 := HS.out w2 (by
        have hb2 := ht3.block b (by rw [size_set]; exact hu.lt) hbG
        refine ⟨?_, by unfold I64 meLo; constructor <;> simp <;> omega, a', cap', ?_, ?_⟩
        · rw [World.cell?_of_block (w := wr.setCell ⟨b, o + j * 2, none⟩ (.int .i64 (k + K))) (a := ⟨b, o + j * 2, none⟩) hb2]; exact hit_of hu d0 _
        · rw [World.cell?_of_block (w := wr.setCell ⟨b, o + j * 2, none⟩ (.int .i64 (k + K))) (a := ⟨b, o + j * 2 + 1, none⟩) hb2, cell_miss _ _ _ _ (by omega)]
          show _ = some (Value.slice a' (mkL meS (fun _ => 2) l[j].2 _).length cap')
          rw [mkL_length]; exact d1
        · exact ho2.1) (fun i hi => by
        have hb2 := ht3.block b (by rw [size_set]; exact hu.lt) hbG
        rw [World.cell?_of_block (w := wr.setCell ⟨b, o + j * 2, none⟩ (.int .i64 (k + K))) (a := ⟨b, i, none⟩) hb2, cell_miss _ _ _ _ (by omega)]) (((Touch.refl _ _).one (by simp) _ _).trans (ht3.mono (by intro f hf; simp [hf])))
      clear HS
      have HS2 := Lib.hid hs2; clear hs2
      go_wp2_with fail
      go_roundw
      case rel => exact ⟨j + 1, by omega, by go_num, by rw [HSC.out, hco]; go_num, HS2.out, ht4⟩
      case measure => simp [intOf]; omega
    · have hjj : l.length = j := by omega
      have HJ := Lib.hid hjj; clear hjj
      go_wp2_with fail
      go_ret
      exact ⟨ret_i (by rw [← HJ.out, List.take_length]), ho.done HJ.out, ht⟩
theorem heldLossS_calls (l : List Lo) (a : Option Addr) (cap : Nat) (k : Int) (B : Nat) (w : World) (hr : Rd ELoss 2 w B a cap (mkL meLo costLo l k)) (hB : B ≤ w.heap.size) (h0 : 0 ≤ k) (h1 : k + cL' costLo l ≤ 9223372036854775806) :
    Calls Try.prog 10 #[.slice a l.length cap, .int .i64 k] w fun e w' => e = .returned (.int .i64 (k + cL' costLo l)) ∧ Below w.heap.size w w' := by
  obtain ⟨hl1, hl2⟩ := hr.len
  rw [mkL_length] at hl1
  go_enter Try.func10, Try.ntmps10
  go_wp2_with fail
  go_loopw [1, 5] (fun q i wr => ∃ (j : Nat), j ≤ l.length ∧ i = .int .i64 j ∧ q = .int .i64 (k + cL' costLo (l.take j)) ∧ Below w.heap.size w wr) (fun _ i _ => l.length - (intOf i).toNat)
  case atStart => exact ⟨0, Nat.zero_le _, rfl, by simp [cL'], Below.refl _ _⟩
  case round =>
    obtain ⟨j, hj, rfl, rfl, hb⟩ := hrel
    by_cases hlt : j < l.length
    · obtain ⟨b, o, a', cap', rfl, hbl, d0, d1, di, hin⟩ := (hr.below ELoss.loc hb hB).loss j (by rw [mkL_length]; exact hlt)
      rw [mkL_get l j k hlt] at d0 d1 di hin
      have hcs := cL'_take_succ (c := costLo) l j hlt
      have hcl := cL'_take_le (c := costLo) l (j + 1)
      have hco : costLo l[j] = 1 + 2 * l[j].2.length := rfl
      generalize hK : (cL' costLo (l.take j)) = K at *
      simp only [meLo, mkL_length] at d0 d1 di hin
      have hk1 : k + K + 1 + 2 * l[j].2.length ≤ 9223372036854775806 := by omega
      have HSC := Lib.hid hcs; clear hcs
      have hbs := hb.size
      go_wp2_with fail
      refine (heldStepS_calls l[j].2 a' cap' (k + K + 1) B wr hin (by omega) (by omega) (by omega)).mono ?_
      rintro e w2 ⟨rfl, hb2⟩
      rw [cLS]
      have hneg : ¬ (k + K + 1 + (2 * l[j].2.length : Nat) < 0) := by omega
      go_wp2_with fail
      go_roundw
      case rel => exact ⟨j + 1, by omega, by go_num, by rw [HSC.out, hco]; go_num, hb.trans (hb2.mono hbs)⟩
      case measure => simp [intOf]; omega
    · have hjj : l.length = j := by omega
      have HJ := Lib.hid hjj; clear hjj
      go_wp2_with fail
      go_ret
      exact ⟨ret_i (by rw [← HJ.out, List.take_length]), hb⟩
end Go.Proofs.Ytmajklgjmghjlaa
