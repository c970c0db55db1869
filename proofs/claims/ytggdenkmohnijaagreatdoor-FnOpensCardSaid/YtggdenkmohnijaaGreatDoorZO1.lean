/- Texts of this proof, merged: Base. No condition beyond what each theorem states. -/
import Derived.Test.YtggdenkmohnijaaGreatDoorRows
import Derived.WalkKit
import Derived.ProofKit
import Derived.OpenShut
import Derived.Handy
import Derived.Lib.Hide
import Derived.Lib.SmallJoins
import Derived.Deep.RegionHeld3
set_option linter.unusedSimpArgs false
set_option linter.unnecessarySimpa false
namespace Go.Proofs.YtggdenkmohnijaaGreatDoor
open Go.ChangeShapes Go.WideShapes Go.ChangeAt Go.RowKit Go.Joins
set_option linter.unusedVariables false
set_option maxRecDepth 100000
inductive T where
 | mk (k n x : Int) (s : ByteArray) (l : List T)

namespace T
def k : T → Int | mk a _ _ _ _ => a
def n : T → Int | mk _ a _ _ _ => a
def x : T → Int | mk _ _ a _ _ => a
def s : T → ByteArray | mk _ _ _ a _ => a
def l : T → List T | mk _ _ _ _ a => a
theorem eta (t : T) : T.mk t.k t.n t.x t.s t.l = t := by cases t; rfl

mutual
def depth : T → Nat | mk _ _ _ _ l => depthL l + 1
def depthL : List T → Nat | [] => 0 | t :: r => max (depth t) (depthL r)
end
mutual
def count : T → Nat | mk _ _ _ _ l => countL l + 1
def countL : List T → Nat | [] => 0 | t :: r => count t + countL r
end
/- The weight that the laws' size functions take: bytes of strings, elements of lists. -/
mutual
def sz : T → Nat | mk _ _ _ s l => s.size + szL l
def szL : List T → Nat | [] => 0 | t :: r => 1 + sz t + szL r
end
end T

theorem T.ind {P : T → Prop} (h : ∀ k n x s l, (∀ t ∈ l, P t) → P (.mk k n x s l)) : ∀ t, P t := by
 have key : ∀ m : Nat, ∀ t : T, t.count ≤ m → P t := by
  intro m
  induction m with
  | zero => intro t ht; cases t; simp [T.count] at ht
  | succ m ih =>
   intro t ht
   cases t with
   | mk k n x s l =>
    apply h
    have hl : T.countL l ≤ m := by simp [T.count] at ht; omega
    clear ht h
    induction l with
    | nil => intro t ht; cases ht
    | cons u r ihr =>
     simp only [T.countL] at hl
     intro t ht
     rcases List.mem_cons.1 ht with rfl | ht
     ·exact ih _ (by omega)
     ·exact ihr (by omega) t ht
 exact fun t => key _ t (Nat.le_refl _)

theorem T.countL_append (a b : List T) : T.countL (a ++ b) = T.countL a + T.countL b := by
 induction a with
 | nil => simp [T.countL]
 | cons t r ih => simp [T.countL, ih, Nat.add_assoc]
theorem T.szL_append (a b : List T) : T.szL (a ++ b) = T.szL a + T.szL b := by
 induction a with
 | nil => simp [T.szL]
 | cons t r ih => simp [T.szL, ih, Nat.add_assoc]
theorem T.depthL_append (a b : List T) : T.depthL (a ++ b) = max (T.depthL a) (T.depthL b) := by
 induction a with
 | nil => simp [T.depthL]
 | cons t r ih => simp [T.depthL, ih, Nat.max_assoc]
theorem T.length_le_szL (l : List T) : l.length ≤ T.szL l := by
 induction l with
 | nil => simp
 | cons t r ih => simp [T.szL]; omega
theorem T.countL_le_szL : ∀ t : T, T.count t ≤ T.sz t + 1 := by
 apply T.ind
 intro k n x s l ih
 simp only [T.count, T.sz]
 have : T.countL l ≤ T.szL l := by
  induction l with
  | nil => simp [T.countL]
  | cons t r ihr =>
   have h1 := ih t (by simp)
   have h2 := ihr (fun t ht => ih t (by simp [ht]))
   simp only [T.countL, T.szL]; omega
 omega
theorem take_snoc {α : Type} (l : List α) (k : Nat) (h : k < l.length) : l.take (k + 1) = l.take k ++ [l[k]] := by
 rw [List.take_succ_eq_append_getElem h]
theorem T.countL_take_succ (l : List T) (k : Nat) (h : k < l.length) : T.countL (l.take (k + 1)) = T.countL (l.take k) + T.count l[k] := by
 rw [take_snoc l k h, T.countL_append]; simp [T.countL]
theorem T.szL_take_succ (l : List T) (k : Nat) (h : k < l.length) : T.szL (l.take (k + 1)) = T.szL (l.take k) + (1 + T.sz l[k]) := by
 rw [take_snoc l k h, T.szL_append]; simp [T.szL]
theorem T.depthL_take_succ (l : List T) (k : Nat) (h : k < l.length) : T.depthL (l.take (k + 1)) = max (T.depthL (l.take k)) (T.depth l[k]) := by
 rw [take_snoc l k h, T.depthL_append]; simp [T.depthL]
theorem T.szL_take_le (l : List T) (k : Nat) : T.szL (l.take k) ≤ T.szL l := by
 have := T.szL_append (l.take k) (l.drop k)
 rw [List.take_append_drop] at this; omega
theorem T.countL_take_le (l : List T) (k : Nat) : T.countL (l.take k) ≤ T.countL l := by
 have := T.countL_append (l.take k) (l.drop k)
 rw [List.take_append_drop] at this; omega
theorem T.depthL_take_le (l : List T) (k : Nat) : T.depthL (l.take k) ≤ T.depthL l := by
 have := T.depthL_append (l.take k) (l.drop k)
 rw [List.take_append_drop] at this; omega
theorem T.count_get (l : List T) (k : Nat) (h : k < l.length) : T.count l[k] ≤ T.countL l := by
 have := T.countL_take_succ l k h
 have := T.countL_take_le l (k + 1)
 omega
theorem T.depth_get (l : List T) (k : Nat) (h : k < l.length) : T.depth l[k] ≤ T.depthL l := by
 have := T.depthL_take_succ l k h
 have := T.depthL_take_le l (k + 1)
 omega
theorem T.sz_get (l : List T) (k : Nat) (h : k < l.length) : 1 + T.sz l[k] ≤ T.szL l := by
 have := T.szL_take_succ l k h
 have := T.szL_take_le l (k + 1)
 omega
theorem T.length_le_countL (l : List T) : l.length ≤ T.countL l := by
 induction l with
 | nil => simp
 | cons t r ih => cases t; simp [T.countL, T.count]; omega
def I64 (n : Int) : Prop := -9223372036854775808 ≤ n ∧ n ≤ 9223372036854775807
theorem I64.of_wf {n : Int} (h : (Lit.int .i64 n).wf = true) : I64 n := by
 unfold I64
 have := h
 simp [Lit.wf, IntKind.min, IntKind.max, IntKind.signed, IntKind.bits] at this
 omega
mutual
def TV (w : World) (b o : Nat) : T → List Nat → Prop
 | .mk k n x s l, F => w.cell? ⟨b, o, none⟩ = some (.int .i64 k) ∧ w.cell? ⟨b, o + 1, none⟩ = some (.int .i64 n) ∧ w.cell? ⟨b, o + 2, none⟩ = some (.int .i64 x) ∧
   w.cell? ⟨b, o + 3, none⟩ = some (.string s) ∧ I64 k ∧ I64 n ∧ I64 x ∧ s.size ≤ maxLen ∧ ∃ a cap, w.cell? ⟨b, o + 4, none⟩ = some (.slice a l.length cap) ∧
   l.length ≤ cap ∧ cap ≤ maxLen ∧ (l = [] → F = []) ∧ (l ≠ [] → ∃ b' o' F', a = some ⟨b', o', none⟩ ∧ F = b' :: F' ∧ TR w b' o' l F')
def TR (w : World) (b o : Nat) : List T → List Nat → Prop
 | [], F => F = []
 | t :: r, F => ∃ F1 F2, F = F1 ++ F2 ∧ TV w b o t F1 ∧ TR w b (o + 5) r F2
end
def TL (w : World) (a : Option Addr) (cap : Nat) (l : List T) (F : List Nat) : Prop :=
 l.length ≤ cap ∧ cap ≤ maxLen ∧ (l = [] → F = []) ∧ (l ≠ [] → ∃ b o F', a = some ⟨b, o, none⟩ ∧ F = b :: F' ∧ TR w b o l F')
theorem TV.iff {w : World} {b o : Nat} {k n x : Int} {s : ByteArray} {l : List T} {F : List Nat} : TV w b o (.mk k n x s l) F ↔
  w.cell? ⟨b, o, none⟩ = some (.int .i64 k) ∧ w.cell? ⟨b, o + 1, none⟩ = some (.int .i64 n) ∧ w.cell? ⟨b, o + 2, none⟩ = some (.int .i64 x) ∧
   w.cell? ⟨b, o + 3, none⟩ = some (.string s) ∧ I64 k ∧ I64 n ∧ I64 x ∧ s.size ≤ maxLen ∧ ∃ a cap, w.cell? ⟨b, o + 4, none⟩ = some (.slice a l.length cap) ∧ TL w a cap l F := by
 rw [TV]; rfl

def Agree (w w' : World) (F : List Nat) : Prop := ∀ f ∈ F, w'.heap[f]? = w.heap[f]?
theorem Agree.left {w w' : World} {F G : List Nat} (h : Agree w w' (F ++ G)) : Agree w w' F := fun f hf => h f (by simp [hf])
theorem Agree.right {w w' : World} {F G : List Nat} (h : Agree w w' (F ++ G)) : Agree w w' G := fun f hf => h f (by simp [hf])

def Cells (w w' : World) (b o p : Nat) : Prop := ∀ i, o ≤ i → i < p → w'.cell? ⟨b, i, none⟩ = w.cell? ⟨b, i, none⟩
theorem Cells.of_block {w w' : World} {b : Nat} (h : w'.heap[b]? = w.heap[b]?) (o p : Nat) : Cells w w' b o p := fun i _ _ => World.cell?_of_block (w := w) (a := ⟨b, i, none⟩) h
theorem Cells.part {w w' : World} {b o p o' p' : Nat} (h : Cells w w' b o p) (ho : o ≤ o') (hp : p' ≤ p) : Cells w w' b o' p' := fun i h1 h2 => h i (by omega) (by omega)
theorem TV.agree : ∀ t : T, ∀ {w w' : World} {b o : Nat} {F : List Nat}, TV w b o t F → Cells w w' b o (o + 5) → Agree w w' F → TV w' b o t F := by
 apply T.ind
 intro k n x s l ih w w' b o F h hb hF
 rw [TV.iff] at h ⊢
 obtain ⟨h0, h1, h2, h3, i0, i1, i2, i3, a, cap, h4, hl1, hl2, hl3, hl4⟩ := h
 refine ⟨by rw [hb _ (by omega) (by omega)]; exact h0, by rw [hb _ (by omega) (by omega)]; exact h1, by rw [hb _ (by omega) (by omega)]; exact h2, by rw [hb _ (by omega) (by omega)]; exact h3, i0, i1, i2, i3, a, cap, by rw [hb _ (by omega) (by omega)]; exact h4, hl1, hl2, hl3, ?_⟩
 intro hne
 obtain ⟨b', o', F', ha, hFe, hr⟩ := hl4 hne
 refine ⟨b', o', F', ha, hFe, ?_⟩
 subst hFe
 have hb' := hF b' (by simp)
 have hF' : Agree w w' F' := fun f hf => hF f (by simp [hf])
 clear ha hl1 hl2 hl3 hl4 hne h4
 have key : ∀ (r : List T), (∀ t ∈ r, t ∈ l) → ∀ o' F', TR w b' o' r F' → Agree w w' F' → TR w' b' o' r F' := by
  intro r
  induction r with
  | nil => intro _ o' F' hr _; rw [TR] at hr ⊢; exact hr
  | cons t r ihr =>
   intro hm o' F' hr hF'
   rw [TR] at hr ⊢
   obtain ⟨F1, F2, rfl, h1, h2⟩ := hr
   exact ⟨F1, F2, rfl, ih t (hm t (by simp)) h1 (Cells.of_block hb' _ _) hF'.left, ihr (fun u hu => hm u (by simp [hu])) _ _ h2 hF'.right⟩
 exact key l (fun _ h => h) _ _ hr hF'
theorem TR.agree {w w' : World} {b : Nat} : ∀ (l : List T) {o : Nat} {F : List Nat}, TR w b o l F → Cells w w' b o (o + l.length * 5) → Agree w w' F → TR w' b o l F := by
 intro l
 induction l with
 | nil => intro o F h _ _; rw [TR] at h ⊢; exact h
 | cons t r ih =>
  intro o F h hb hF
  rw [TR] at h ⊢
  obtain ⟨F1, F2, rfl, h1, h2⟩ := h
  simp only [List.length_cons] at hb
  exact ⟨F1, F2, rfl, TV.agree t h1 (hb.part (Nat.le_refl _) (by omega)) hF.left, ih h2 (hb.part (by omega) (by omega)) hF.right⟩
theorem TR.snoc {w : World} {b : Nat} {t : T} {G : List Nat} : ∀ {l : List T} {o : Nat} {F : List Nat}, TR w b o l F → TV w b (o + l.length * 5) t G → TR w b o (l ++ [t]) (F ++ G) := by
 intro l
 induction l with
 | nil =>
  intro o F h hv
  rw [TR] at h
  subst h
  simp only [List.nil_append, List.length_nil, Nat.zero_mul, Nat.add_zero] at hv ⊢
  rw [TR]
  exact ⟨G, [], by simp, hv, by rw [TR]⟩
 | cons u r ih =>
  intro o F h hv
  rw [TR] at h
  obtain ⟨F1, F2, rfl, h1, h2⟩ := h
  simp only [List.cons_append]
  rw [TR]
  simp only [List.length_cons] at hv
  refine ⟨F1, F2 ++ G, by simp, h1, ih h2 ?_⟩
  have e : o + 5 + r.length * 5 = o + (r.length + 1) * 5 := by omega
  rw [e]; exact hv
theorem TL.agree {w w' : World} {a : Option Addr} {cap : Nat} {l : List T} {F : List Nat} (h : TL w a cap l F) (hF : Agree w w' F) : TL w' a cap l F := by
 obtain ⟨h1, h2, h3, h4⟩ := h
 refine ⟨h1, h2, h3, fun hne => ?_⟩
 obtain ⟨b, o, F', ha, rfl, hr⟩ := h4 hne
 exact ⟨b, o, F', ha, rfl, TR.agree l hr (Cells.of_block (hF b (by simp)) _ _) (fun f hf => hF f (by simp [hf]))⟩
theorem TR.get {w : World} {b : Nat} : ∀ {l : List T} {o : Nat} {F : List Nat}, TR w b o l F → ∀ (i : Nat) (h : i < l.length), ∃ F', TV w b (o + i * 5) l[i] F' ∧ ∀ f ∈ F', f ∈ F := by
 intro l
 induction l with
 | nil => intro o F _ i h; simp at h
 | cons t r ih =>
  intro o F h i hi
  rw [TR] at h
  obtain ⟨F1, F2, rfl, h1, h2⟩ := h
  cases i with
  | zero => exact ⟨F1, by simpa using h1, fun f hf => by simp [hf]⟩
  | succ i =>
   obtain ⟨F', hv, hm⟩ := ih h2 i (by simpa using hi)
   refine ⟨F', ?_, fun f hf => by simp [hm f hf]⟩
   have e : o + (i + 1) * 5 = o + 5 + i * 5 := by omega
   rw [e]; simpa using hv

def Wf (t : T) : Prop := I64 t.k ∧ I64 t.n ∧ I64 t.x ∧ t.s.size ≤ maxLen
theorem Wf.size {t : T} (h : Wf t) : t.s.size ≤ 9223372036854775807 := by have := h.2.2.2; unfold maxLen at this; omega
def R (w : World) (B : Nat) (a : Option Addr) (cap : Nat) (l : List T) : Prop := ∃ F, TL w a cap l F ∧ ∀ f ∈ F, f < B
theorem R.below {w w' : World} {B B' : Nat} {a : Option Addr} {cap : Nat} {l : List T} (h : R w B a cap l) (hb : Below B' w w') (hB : B ≤ B') : R w' B a cap l := by
 obtain ⟨F, h1, h2⟩ := h
 exact ⟨F, h1.agree (fun f hf => hb.block f (by have := h2 f hf; omega)), h2⟩
theorem R.more {w : World} {B B' : Nat} {a : Option Addr} {cap : Nat} {l : List T} (h : R w B a cap l) (hB : B ≤ B') : R w B' a cap l := by
 obtain ⟨F, h1, h2⟩ := h
 exact ⟨F, h1, fun f hf => Nat.lt_of_lt_of_le (h2 f hf) hB⟩
theorem R.len {w : World} {B : Nat} {a : Option Addr} {cap : Nat} {l : List T} (h : R w B a cap l) : l.length ≤ cap ∧ cap ≤ 9223372036854775807 := by
 obtain ⟨F, h1, _⟩ := h
 have := h1.2.1; unfold maxLen at this
 exact ⟨h1.1, by omega⟩
theorem R.nil (w : World) (B : Nat) : R w B none 0 [] := ⟨[], ⟨by simp, by simp [maxLen], fun _ => rfl, fun h => absurd rfl h⟩, by simp⟩
theorem R.get {w : World} {B : Nat} {a : Option Addr} {cap : Nat} {l : List T} (h : R w B a cap l) (i : Nat) (hi : i < l.length) :
  ∃ b o a' cap', a = some ⟨b, o, none⟩ ∧ b < B ∧ w.cell? ⟨b, o + i * 5, none⟩ = some (.int .i64 l[i].k) ∧ w.cell? ⟨b, o + i * 5 + 1, none⟩ = some (.int .i64 l[i].n) ∧
   w.cell? ⟨b, o + i * 5 + 2, none⟩ = some (.int .i64 l[i].x) ∧ w.cell? ⟨b, o + i * 5 + 3, none⟩ = some (.string l[i].s) ∧
   w.cell? ⟨b, o + i * 5 + 4, none⟩ = some (.slice a' l[i].l.length cap') ∧ Wf l[i] ∧ R w B a' cap' l[i].l := by
 obtain ⟨F, ⟨h1, h2, h3, h4⟩, hF⟩ := h
 obtain ⟨b, o, F', ha, rfl, hr⟩ := h4 (by rintro rfl; simp at hi)
 obtain ⟨G, hv, hG⟩ := hr.get i hi
 rw [← T.eta l[i]] at hv
 rw [TV.iff] at hv
 obtain ⟨c0, c1, c2, c3, i0, i1, i2, i3, a', cap', c4, hl⟩ := hv
 exact ⟨b, o, a', cap', ha, hF b (by simp), c0, c1, c2, c3, c4, ⟨i0, i1, i2, i3⟩, G, hl, fun f hf => hF f (by simp [hG f hf])⟩
theorem below_step {B n : Nat} {w0 w1 w2 : World} (h : Below B w0 w1) (hb : Below n w1 w2) (hn : B ≤ n) : Below B w0 w2 := h.trans (hb.mono hn)
theorem below1 (w : World) (o : Obj) : Below w.heap.size w (w.alloc o) := (Below.refl _ _).alloc (Nat.le_refl _) _
theorem below2 (w : World) (o p : Obj) : Below w.heap.size w ((w.alloc o).alloc p) := (below1 w o).alloc (by simp) _
theorem below3 (w : World) (o p q : Obj) : Below w.heap.size w (((w.alloc o).alloc p).alloc q) := (below2 w o p).alloc (by simp; omega) _
theorem bytes_ext {a b : ByteArray} (h : a.toList = b.toList) : a = b := by
 rw [ByteArray.toList_eq, ByteArray.toList_eq] at h; exact bytes_inj h
theorem bytes_ne {a b : ByteArray} (h : ¬ a = b) : (a.toList == b.toList) = false := by
 rw [beq_eq_false_iff_ne]; exact fun e => h (bytes_ext e)
theorem ret_b {x y : Bool} (h : x = y) : Ending.returned (.bool x) = .returned (.bool y) := by rw [h]
theorem ret_i {k : IntKind} {x y : Int} (h : x = y) : Ending.returned (.int k x) = .returned (.int k y) := by rw [h]
theorem ret_s {x y : ByteArray} (h : x = y) : Ending.returned (.string x) = .returned (.string y) := by rw [h]
theorem below1s (w : World) (g i : Nat) (v : Value) : Below g w (w.setCell ⟨g, i, none⟩ v) := (Below.refl g w).setCell (p := ⟨g, i, none⟩) (Nat.le_refl _) _
theorem below2s (w : World) (g : Nat) (v0 v1 : Value) : Below g w ((w.setCell ⟨g, 0, none⟩ v0).setCell ⟨g, 1, none⟩ v1) := (below1s w g 0 v0).trans (below1s _ g 1 v1)
theorem below3s (w : World) (g : Nat) (v0 v1 v2 : Value) : Below g w (((w.setCell ⟨g, 0, none⟩ v0).setCell ⟨g, 1, none⟩ v1).setCell ⟨g, 2, none⟩ v2) := (below2s w g v0 v1).trans (below1s _ g 2 v2)
theorem below_drewN (B : Nat) (w : World) (n : Nat) : Below B w (w.drewN n) := ⟨rfl, rfl, rfl, Nat.le_refl _, fun _ _ => rfl⟩
theorem keep_step {N n : Nat} {W0 w1 w2 : World} (h : (∀ b o, b < N → w1.cell? ⟨b, o, none⟩ = W0.cell? ⟨b, o, none⟩) ∧ Below N W0 w1) (hb : Below n w1 w2) (hn : N ≤ n) :
  (∀ b o, b < N → w2.cell? ⟨b, o, none⟩ = W0.cell? ⟨b, o, none⟩) ∧ Below N W0 w2 :=
 ⟨fun b o hb' => ((hb.mono hn).cell (p := ⟨b, o, none⟩) hb').trans (h.1 b o hb'), h.2.trans (hb.mono hn)⟩
def Unf (w : World) (f : Nat) : Prop := ∃ c e, w.heap[f]? = some (.cells c e (0, 0))
theorem Unf.lt {w : World} {f : Nat} (h : Unf w f) : f < w.heap.size := by
 obtain ⟨c, e, h⟩ := h
 exact (Array.getElem?_eq_some_iff.1 h).1
theorem Unf.agree {w w' : World} {f : Nat} (h : Unf w f) (hf : w'.heap[f]? = w.heap[f]?) : Unf w' f := by
 obtain ⟨c, e, h⟩ := h
 exact ⟨c, e, hf.trans h⟩
def Own (w : World) (lo hi : Nat) (a : Option Addr) (cap : Nat) (l : List T) : Prop := ∃ F, TL w a cap l F ∧ F.Nodup ∧ ∀ f ∈ F, lo ≤ f ∧ f < hi ∧ Unf w f
theorem Own.read {w : World} {lo hi cap : Nat} {a : Option Addr} {l : List T} (h : Own w lo hi a cap l) : R w hi a cap l := by
 obtain ⟨F, h1, _, h2⟩ := h
 exact ⟨F, h1, fun f hf => (h2 f hf).2.1⟩
theorem Own.agree {w w' : World} {lo hi cap : Nat} {a : Option Addr} {l : List T} (h : Own w lo hi a cap l) (hw : ∀ f, lo ≤ f → f < hi → w'.heap[f]? = w.heap[f]?) : Own w' lo hi a cap l := by
 obtain ⟨F, h1, h2, h3⟩ := h
 exact ⟨F, h1.agree (fun f hf => hw f (h3 f hf).1 (h3 f hf).2.1), h2, fun f hf => ⟨(h3 f hf).1, (h3 f hf).2.1, (h3 f hf).2.2.agree (hw f (h3 f hf).1 (h3 f hf).2.1)⟩⟩
theorem Own.below {w w' : World} {lo hi cap n : Nat} {a : Option Addr} {l : List T} (h : Own w lo hi a cap l) (hb : Below n w w') (hn : hi ≤ n) : Own w' lo hi a cap l :=
 h.agree fun f _ hf => hb.block f (by omega)
theorem Own.more {w : World} {lo hi lo' hi' cap : Nat} {a : Option Addr} {l : List T} (h : Own w lo hi a cap l) (h1 : lo' ≤ lo) (h2 : hi ≤ hi') : Own w lo' hi' a cap l := by
 obtain ⟨F, a1, a2, a3⟩ := h
 exact ⟨F, a1, a2, fun f hf => ⟨by have := (a3 f hf).1; omega, by have := (a3 f hf).2.1; omega, (a3 f hf).2.2⟩⟩
theorem Own.nil (w : World) (lo hi : Nat) (a : Option Addr) (cap : Nat) (h : cap ≤ maxLen) : Own w lo hi a cap [] := ⟨[], ⟨by simp, h, fun _ => rfl, fun h => absurd rfl h⟩, by simp, by simp⟩
def Blk (w : World) (g : Nat) (e : TypeId) (n : Nat) : Prop := ∃ cur, w.heap[g]? = some (.cells cur e (0, 0)) ∧ cur.size = n
theorem Blk.cell {w : World} {g : Nat} {e : TypeId} {n : Nat} (h : Blk w g e n) (i : Nat) (hi : i < n) : ∃ v, w.cell? ⟨g, i, none⟩ = some v := by
 obtain ⟨cur, h, hs⟩ := h
 exact ⟨cur[i]'(by omega), by simp [World.cell?, h, hs, hi]⟩
theorem Blk.frozen {w : World} {g : Nat} {e : TypeId} {n : Nat} (h : Blk w g e n) (i : Nat) : w.frozen? ⟨g, i, none⟩ = false := by
 obtain ⟨cur, h, hs⟩ := h
 simp only [World.frozen?, h]; simp
theorem Blk.unf {w : World} {g : Nat} {e : TypeId} {n : Nat} (h : Blk w g e n) : Unf w g := by
 obtain ⟨cur, h, _⟩ := h
 exact ⟨cur, e, h⟩
theorem Blk.agree {w w' : World} {g : Nat} {e : TypeId} {n : Nat} (h : Blk w g e n) (hg : w'.heap[g]? = w.heap[g]?) : Blk w' g e n := by
 obtain ⟨cur, h, hs⟩ := h
 exact ⟨cur, hg.trans h, hs⟩
theorem Blk.below {w w' : World} {g : Nat} {e : TypeId} {n m : Nat} (h : Blk w g e n) (hb : Below m w w') (hg : g < m) : Blk w' g e n := h.agree (hb.block g hg)
theorem Blk.alloc (w : World) (c : Array Value) (e : TypeId) : Blk (w.alloc (.cells c e)) w.heap.size e c.size := ⟨c, heap_alloc_new w _, rfl⟩
theorem Blk.set_ {w : World} {g : Nat} {e : TypeId} {n : Nat} (h : Blk w g e n) (i : Nat) (v : Value) : Blk (w.setCell ⟨g, i, none⟩ v) g e n := by
 obtain ⟨cur, h, hs⟩ := h
 exact ⟨cur.setIfInBounds i v, by simp [World.setCell, Array.getElem?_modify, h], by simpa using hs⟩
theorem Blk.hit {w : World} {g : Nat} {e : TypeId} {n : Nat} (h : Blk w g e n) (i : Nat) (hi : i < n) (v : Value) : (w.setCell ⟨g, i, none⟩ v).cell? ⟨g, i, none⟩ = some v := by
 obtain ⟨cur, h, hs⟩ := h
 simp [World.setCell, World.cell?, Array.getElem?_modify, h, hs, hi]
theorem cell_miss (w : World) (g i j : Nat) (hne : i ≠ j) (v : Value) : (w.setCell ⟨g, i, none⟩ v).cell? ⟨g, j, none⟩ = w.cell? ⟨g, j, none⟩ :=
 World.cell?_setCell_other w _ _ v (fun e => hne (by injection e))
theorem heap_miss (w : World) (g i k : Nat) (hne : k ≠ g) (v : Value) : (w.setCell ⟨g, i, none⟩ v).heap[k]? = w.heap[k]? := Below.heap_setCell w ⟨g, i, none⟩ v k hne
theorem size_set (w : World) (p : Addr) (v : Value) : (w.setCell p v).heap.size = w.heap.size := by simp [World.setCell]
abbrev cV (t : T) (a : Option Addr) (cap : Nat) : Array Value := #[Value.int IntKind.i64 t.k, Value.int IntKind.i64 t.n, Value.int IntKind.i64 t.x, Value.string t.s, Value.slice a t.l.length cap]
def Is (w : World) (g : Nat) (e : TypeId) (cs : Array Value) : Prop := w.heap[g]? = some (.cells cs e (0, 0))
theorem Is.lt {w : World} {g : Nat} {e : TypeId} {cs : Array Value} (h : Is w g e cs) : g < w.heap.size := (Array.getElem?_eq_some_iff.1 h).1
theorem Is.cell {w : World} {g : Nat} {e : TypeId} {cs : Array Value} (h : Is w g e cs) (i : Nat) {v : Value} (hv : cs[i]? = some v) : w.cell? ⟨g, i, none⟩ = some v := by
 unfold Is at h; simp [World.cell?, h, hv]
theorem Is.frozen {w : World} {g : Nat} {e : TypeId} {cs : Array Value} (h : Is w g e cs) (i : Nat) : w.frozen? ⟨g, i, none⟩ = false := by
 unfold Is at h; simp only [World.frozen?, h]; simp
theorem Is.below {w w' : World} {g n : Nat} {e : TypeId} {cs : Array Value} (h : Is w g e cs) (hb : Below n w w') (hg : g < n) : Is w' g e cs := (hb.block g hg).trans h
theorem Is.new (w : World) (cs : Array Value) (e : TypeId) : Is (w.alloc (.cells cs e)) w.heap.size e cs := heap_alloc_new w _
theorem Is.alloc {w : World} {g : Nat} {e : TypeId} {cs : Array Value} (h : Is w g e cs) (o : Obj) : Is (w.alloc o) g e cs := (Below.heap_alloc w o g h.lt).trans h
theorem Is.blk {w : World} {g : Nat} {e : TypeId} {cs : Array Value} (h : Is w g e cs) : Blk w g e cs.size := ⟨cs, h, rfl⟩
theorem Is.cells5 {w : World} {g : Nat} {e : TypeId} {v0 v1 v2 v3 v4 : Value} (h : Is w g e #[v0, v1, v2, v3, v4]) : w.cell? ⟨g, 0, none⟩ = some v0 ∧ w.cell? ⟨g, 1, none⟩ = some v1 ∧ w.cell? ⟨g, 2, none⟩ = some v2 ∧ w.cell? ⟨g, 3, none⟩ = some v3 ∧ w.cell? ⟨g, 4, none⟩ = some v4 :=
 ⟨h.cell 0 rfl, h.cell 1 rfl, h.cell 2 rfl, h.cell 3 rfl, h.cell 4 rfl⟩
theorem Is.cells3 {w : World} {g : Nat} {e : TypeId} {v0 v1 v2 : Value} (h : Is w g e #[v0, v1, v2]) : w.cell? ⟨g, 0, none⟩ = some v0 ∧ w.cell? ⟨g, 1, none⟩ = some v1 ∧ w.cell? ⟨g, 2, none⟩ = some v2 :=
 ⟨h.cell 0 rfl, h.cell 1 rfl, h.cell 2 rfl⟩
theorem Is.cells2 {w : World} {g : Nat} {e : TypeId} {v0 v1 : Value} (h : Is w g e #[v0, v1]) : w.cell? ⟨g, 0, none⟩ = some v0 ∧ w.cell? ⟨g, 1, none⟩ = some v1 := ⟨h.cell 0 rfl, h.cell 1 rfl⟩
theorem Is.new2 (w : World) (o : Obj) (cs : Array Value) (e : TypeId) : Is ((w.alloc o).alloc (.cells cs e)) (w.heap.size + 1) e cs := by have := Is.new (w.alloc o) cs e; rwa [show (w.alloc o).heap.size = w.heap.size + 1 from by simp] at this
theorem Is.new3 (w : World) (o p : Obj) (cs : Array Value) (e : TypeId) : Is (((w.alloc o).alloc p).alloc (.cells cs e)) (w.heap.size + 1 + 1) e cs := by have := Is.new ((w.alloc o).alloc p) cs e; rwa [show ((w.alloc o).alloc p).heap.size = w.heap.size + 1 + 1 from by simp] at this
theorem size_alloc (w : World) (o : Obj) : (w.alloc o).heap.size = w.heap.size + 1 := by simp
def st5 (w : World) (g o : Nat) (v0 v1 v2 v3 v4 : Value) : World :=
 ((((w.setCell ⟨g, o, none⟩ v0).setCell ⟨g, o + 1, none⟩ v1).setCell ⟨g, o + 2, none⟩ v2).setCell ⟨g, o + 3, none⟩ v3).setCell ⟨g, o + 4, none⟩ v4
section
variable {w : World} {g o : Nat} {e : TypeId} {n : Nat} {v0 v1 v2 v3 v4 : Value}
theorem st5_blk (h : Blk w g e n) : Blk (st5 w g o v0 v1 v2 v3 v4) g e n := ((((h.set_ _ _).set_ _ _).set_ _ _).set_ _ _).set_ _ _
theorem st5_heap (k : Nat) (hk : k ≠ g) : (st5 w g o v0 v1 v2 v3 v4).heap[k]? = w.heap[k]? := by
 unfold st5; rw [heap_miss _ _ _ _ hk, heap_miss _ _ _ _ hk, heap_miss _ _ _ _ hk, heap_miss _ _ _ _ hk, heap_miss _ _ _ _ hk]
theorem st5_size : (st5 w g o v0 v1 v2 v3 v4).heap.size = w.heap.size := by unfold st5; simp only [size_set]
theorem st5_miss (i : Nat) (hi : i < o ∨ o + 5 ≤ i) : (st5 w g o v0 v1 v2 v3 v4).cell? ⟨g, i, none⟩ = w.cell? ⟨g, i, none⟩ := by
 unfold st5; rw [cell_miss _ _ _ _ (by omega), cell_miss _ _ _ _ (by omega), cell_miss _ _ _ _ (by omega), cell_miss _ _ _ _ (by omega), cell_miss _ _ _ _ (by omega)]
theorem st5_hit0 (h : Blk w g e n) (ho : o + 5 ≤ n) : (st5 w g o v0 v1 v2 v3 v4).cell? ⟨g, o, none⟩ = some v0 := by
 unfold st5; rw [cell_miss _ _ _ _ (by omega), cell_miss _ _ _ _ (by omega), cell_miss _ _ _ _ (by omega), cell_miss _ _ _ _ (by omega)]; exact h.hit _ (by omega) _
theorem st5_hit1 (h : Blk w g e n) (ho : o + 5 ≤ n) : (st5 w g o v0 v1 v2 v3 v4).cell? ⟨g, o + 1, none⟩ = some v1 := by
 unfold st5; rw [cell_miss _ _ _ _ (by omega), cell_miss _ _ _ _ (by omega), cell_miss _ _ _ _ (by omega)]; exact (h.set_ _ _).hit _ (by omega) _
theorem st5_hit2 (h : Blk w g e n) (ho : o + 5 ≤ n) : (st5 w g o v0 v1 v2 v3 v4).cell? ⟨g, o + 2, none⟩ = some v2 := by
 unfold st5; rw [cell_miss _ _ _ _ (by omega), cell_miss _ _ _ _ (by omega)]; exact ((h.set_ _ _).set_ _ _).hit _ (by omega) _
theorem st5_hit3 (h : Blk w g e n) (ho : o + 5 ≤ n) : (st5 w g o v0 v1 v2 v3 v4).cell? ⟨g, o + 3, none⟩ = some v3 := by
 unfold st5; rw [cell_miss _ _ _ _ (by omega)]; exact (((h.set_ _ _).set_ _ _).set_ _ _).hit _ (by omega) _
theorem st5_hit4 (h : Blk w g e n) (ho : o + 5 ≤ n) : (st5 w g o v0 v1 v2 v3 v4).cell? ⟨g, o + 4, none⟩ = some v4 := by
 unfold st5; exact ((((h.set_ _ _).set_ _ _).set_ _ _).set_ _ _).hit _ (by omega) _
theorem st5_below (B : Nat) (hB : B ≤ g) : Below B w (st5 w g o v0 v1 v2 v3 v4) := by
 unfold st5
 exact (((((Below.refl B w).setCell (p := ⟨g, o, none⟩) hB _).setCell (p := ⟨g, o + 1, none⟩) hB _).setCell (p := ⟨g, o + 2, none⟩) hB _).setCell (p := ⟨g, o + 3, none⟩) hB _).setCell (p := ⟨g, o + 4, none⟩) hB _
theorem st5_reads (h : Blk w g e n) (ho : o + 5 ≤ n) : (st5 w g o v0 v1 v2 v3 v4).cell? ⟨g, o, none⟩ = some v0 ∧ (st5 w g o v0 v1 v2 v3 v4).cell? ⟨g, o + 1, none⟩ = some v1 ∧ (st5 w g o v0 v1 v2 v3 v4).cell? ⟨g, o + 2, none⟩ = some v2 ∧
  (st5 w g o v0 v1 v2 v3 v4).cell? ⟨g, o + 3, none⟩ = some v3 ∧ (st5 w g o v0 v1 v2 v3 v4).cell? ⟨g, o + 4, none⟩ = some v4 := ⟨st5_hit0 h ho, st5_hit1 h ho, st5_hit2 h ho, st5_hit3 h ho, st5_hit4 h ho⟩
end
def Filling (w : World) (g : Nat) (e : TypeId) (n : Nat) (l : List T) : Prop := Blk w g e n ∧ ∃ F, TR w g 0 l F ∧ F.Nodup ∧ ∀ f ∈ F, g < f ∧ Unf w f
theorem Filling.below {w w' : World} {g : Nat} {e : TypeId} {n : Nat} {l : List T} (h : Filling w g e n l) (hb : Below w.heap.size w w') : Filling w' g e n l := by
 obtain ⟨h1, F, h2, h3, h4⟩ := h
 have hg := h1.unf.lt
 exact ⟨h1.below hb hg, F, h2.agree l (Cells.of_block (hb.block g hg) _ _) (fun f hf => hb.block f (h4 f hf).2.lt), h3, fun f hf => ⟨(h4 f hf).1, (h4 f hf).2.agree (hb.block f (h4 f hf).2.lt)⟩⟩
theorem Filling.step {w w2 : World} {g : Nat} {e : TypeId} {n : Nat} {l : List T} (h : Filling w g e n l) (hb : Below w.heap.size w w2) {hi : Nat} {a : Option Addr} {cap : Nat} {t : T} (hw : Wf t)
  (hown : Own w2 w.heap.size hi a cap t.l) {o : Nat} (ho : o = l.length * 5) (hn : o + 5 ≤ n) :
  Filling (st5 w2 g o (.int .i64 t.k) (.int .i64 t.n) (.int .i64 t.x) (.string t.s) (.slice a t.l.length cap)) g e n (l ++ [t]) := by
 subst ho
 have hg := h.1.unf.lt
 obtain ⟨h1, F, h2, h3, h4⟩ := h
 obtain ⟨F2, k1, k2, k3⟩ := hown
 have hlt : ∀ f ∈ F, f < w.heap.size := fun f hf => (h4 f hf).2.lt
 have hb2 : Blk w2 g e n := h1.below hb hg
 have hag : ∀ f, f ≠ g → f < w.heap.size → (st5 w2 g (l.length * 5) (.int .i64 t.k) (.int .i64 t.n) (.int .i64 t.x) (.string t.s) (.slice a t.l.length cap)).heap[f]? = w.heap[f]? := fun f h1 h2 => (st5_heap f h1).trans (hb.block f h2)
 have hag2 : ∀ f ∈ F2, (st5 w2 g (l.length * 5) (.int .i64 t.k) (.int .i64 t.n) (.int .i64 t.x) (.string t.s) (.slice a t.l.length cap)).heap[f]? = w2.heap[f]? := fun f hf => st5_heap f (by have := (k3 f hf).1; omega)
 refine ⟨st5_blk hb2, F ++ F2, TR.snoc (h2.agree l ?_ (fun f hf => hag f (by have := (h4 f hf).1; omega) (hlt f hf))) ?_, ?_, ?_⟩
 ·intro i _ hi
  rw [st5_miss _ (by omega)]
  exact World.cell?_of_block (w := w) (a := ⟨g, i, none⟩) (hb.block g hg)
 ·rw [← T.eta t, TV.iff, Nat.zero_add]
  exact ⟨st5_hit0 hb2 hn, st5_hit1 hb2 hn, st5_hit2 hb2 hn, st5_hit3 hb2 hn, hw.1, hw.2.1, hw.2.2.1, hw.2.2.2, a, cap, st5_hit4 hb2 hn, k1.agree hag2⟩
 ·rw [List.nodup_append]
  refine ⟨h3, k2, ?_⟩
  intro x hx y hy e
  have := hlt x hx
  have := (k3 y hy).1
  omega
 ·intro f hf
  rcases List.mem_append.1 hf with hf | hf
  ·exact ⟨(h4 f hf).1, (h4 f hf).2.agree (hag f (by have := (h4 f hf).1; omega) (hlt f hf))⟩
  ·exact ⟨by have := (k3 f hf).1; omega, (k3 f hf).2.2.agree (hag2 f hf)⟩
theorem Filling.done {w : World} {g : Nat} {e : TypeId} {n cap : Nat} {l : List T} (h : Filling w g e n l) (hc : l.length ≤ cap) (hm : cap ≤ maxLen) : Own w g w.heap.size (some ⟨g, 0, none⟩) cap l := by
 obtain ⟨h1, F, h2, h3, h4⟩ := h
 by_cases hl : l = []
 ·subst hl
  exact Own.nil _ _ _ _ _ hm
 ·refine ⟨g :: F, ⟨hc, hm, fun h => absurd h hl, fun _ => ⟨g, 0, F, rfl, rfl, h2⟩⟩, ?_, ?_⟩
  ·rw [List.nodup_cons]
   exact ⟨fun hg => by have := (h4 g hg).1; omega, h3⟩
  ·intro f hf
   rcases List.mem_cons.1 hf with rfl | hf
   ·exact ⟨Nat.le_refl _, h1.unf.lt, h1.unf⟩
   ·exact ⟨Nat.le_of_lt (h4 f hf).1, (h4 f hf).2.lt, (h4 f hf).2⟩
end Go.Proofs.YtggdenkmohnijaaGreatDoor
