/- Contracts and lemmas for the proofs of this seat: Gen. No condition beyond those stated. -/
import Derived.Test.YtmajklgjmghjlaaRows
import Derived.WalkKit
import Derived.ProofKit
import Derived.OpenShut
import Derived.Handy
import Derived.Lib.Hide
import Derived.Lib.SmallJoins
import Derived.Test.YtmajklgjmghjlaaBase
namespace Go.Proofs.Ytmajklgjmghjlaa
open Go.ChangeShapes Go.WideShapes Go.ChangeAt Go.RowKit Go.Joins
set_option linter.unusedVariables false
set_option maxRecDepth 100000
/-! Slices of whatever elements: E w b o x F: the n cells at ⟨b, o⟩ hold x; F: the blocks that x takes up besides. -/
section
variable {α : Type}
def Row (E : World → Nat → Nat → α → List Nat → Prop) (n : Nat) (w : World) (b o : Nat) : List α → List Nat → Prop
  | [], F => F = []
  | x :: r, F => ∃ F1 F2, F = F1 ++ F2 ∧ E w b o x F1 ∧ Row E n w b (o + n) r F2
def Sl (E : World → Nat → Nat → α → List Nat → Prop) (n : Nat) (w : World) (a : Option Addr) (cap : Nat) (l : List α) (F : List Nat) : Prop :=
  l.length ≤ cap ∧ cap ≤ maxLen ∧ (l = [] → F = []) ∧ (l ≠ [] → ∃ b o F', a = some ⟨b, o, none⟩ ∧ F = b :: F' ∧ Row E n w b o l F')
/-- The slice value holds the list, in blocks below B. -/
def Rd (E : World → Nat → Nat → α → List Nat → Prop) (n : Nat) (w : World) (B : Nat) (a : Option Addr) (cap : Nat) (l : List α) : Prop := ∃ F, Sl E n w a cap l F ∧ ∀ f ∈ F, f < B
/-- The slice value holds the list, in blocks from lo up to hi, each its own. -/
def Ow (E : World → Nat → Nat → α → List Nat → Prop) (n : Nat) (w : World) (lo hi : Nat) (a : Option Addr) (cap : Nat) (l : List α) : Prop := ∃ F, Sl E n w a cap l F ∧ F.Nodup ∧ ∀ f ∈ F, lo ≤ f ∧ f < hi ∧ Unf w f
/-- E looks at its own cells and at the blocks of F alone. -/
def Loc (E : World → Nat → Nat → α → List Nat → Prop) (n : Nat) : Prop := ∀ (x : α) {w w' : World} {b o : Nat} {F : List Nat}, E w b o x F → Cells w w' b o (o + n) → Agree w w' F → E w' b o x F
variable {E : World → Nat → Nat → α → List Nat → Prop} {n : Nat}
theorem Row.agree (hE : Loc E n) {w w' : World} {b : Nat} : ∀ (l : List α) {o : Nat} {F : List Nat}, Row E n w b o l F → Cells w w' b o (o + l.length * n) → Agree w w' F → Row E n w' b o l F := by
  intro l
  induction l with
  | nil => intro o F h _ _; exact h
  | cons t r ih =>
    intro o F h hb hF
    obtain ⟨F1, F2, rfl, h1, h2⟩ := h
    simp only [List.length_cons, Nat.add_mul, Nat.one_mul] at hb
    exact ⟨F1, F2, rfl, hE t h1 (hb.part (Nat.le_refl _) (by omega)) hF.left, ih h2 (hb.part (by omega) (by omega)) hF.right⟩
theorem Row.snoc {w : World} {b : Nat} {t : α} {G : List Nat} : ∀ {l : List α} {o : Nat} {F : List Nat}, Row E n w b o l F → E w b (o + l.length * n) t G → Row E n w b o (l ++ [t]) (F ++ G) := by
  intro l
  induction l with
  | nil =>
    intro o F h hv
    simp only [Row] at h
    subst h
    simp only [List.nil_append, List.length_nil, Nat.zero_mul, Nat.add_zero] at hv ⊢
    exact ⟨G, [], by simp, hv, rfl⟩
  | cons u r ih =>
    intro o F h hv
    obtain ⟨F1, F2, rfl, h1, h2⟩ := h
    simp only [List.length_cons, Nat.add_mul, Nat.one_mul] at hv
    refine ⟨F1, F2 ++ G, by simp, h1, ih h2 ?_⟩
    rw [show o + n + r.length * n = o + (r.length * n + n) from by omega]
    exact hv
theorem Row.get {w : World} {b : Nat} : ∀ {l : List α} {o : Nat} {F : List Nat}, Row E n w b o l F → ∀ (i : Nat) (h : i < l.length), ∃ F', E w b (o + i * n) l[i] F' ∧ ∀ f ∈ F', f ∈ F := by
  intro l
  induction l with
  | nil => intro o F _ i h; simp at h
  | cons t r ih =>
    intro o F h i hi
    obtain ⟨F1, F2, rfl, h1, h2⟩ := h
    cases i with
    | zero => exact ⟨F1, by simpa using h1, fun f hf => by simp [hf]⟩
    | succ i =>
      obtain ⟨F', hv, hm⟩ := ih h2 i (by simpa using hi)
      refine ⟨F', ?_, fun f hf => by simp [hm f hf]⟩
      rw [show o + (i + 1) * n = o + n + i * n from by rw [Nat.add_mul]; omega]
      simpa using hv
theorem Sl.agree (hE : Loc E n) {w w' : World} {a : Option Addr} {cap : Nat} {l : List α} {F : List Nat} (h : Sl E n w a cap l F) (hF : Agree w w' F) : Sl E n w' a cap l F := by
  obtain ⟨h1, h2, h3, h4⟩ := h
  refine ⟨h1, h2, h3, fun hne => ?_⟩
  obtain ⟨b, o, F', ha, rfl, hr⟩ := h4 hne
  exact ⟨b, o, F', ha, rfl, hr.agree hE l (Cells.of_block (hF b (by simp)) _ _) (fun f hf => hF f (by simp [hf]))⟩
theorem Sl.nil (w : World) (a : Option Addr) (cap : Nat) (h : cap ≤ maxLen) : Sl E n w a cap [] [] := ⟨by simp, h, fun _ => rfl, fun h => absurd rfl h⟩
theorem Rd.below (hE : Loc E n) {w w' : World} {B B' : Nat} {a : Option Addr} {cap : Nat} {l : List α} (h : Rd E n w B a cap l) (hb : Below B' w w') (hB : B ≤ B') : Rd E n w' B a cap l := by
  obtain ⟨F, h1, h2⟩ := h
  exact ⟨F, h1.agree hE (fun f hf => hb.block f (by have := h2 f hf; omega)), h2⟩
theorem Rd.more {w : World} {B B' : Nat} {a : Option Addr} {cap : Nat} {l : List α} (h : Rd E n w B a cap l) (hB : B ≤ B') : Rd E n w B' a cap l := by
  obtain ⟨F, h1, h2⟩ := h
  exact ⟨F, h1, fun f hf => Nat.lt_of_lt_of_le (h2 f hf) hB⟩
theorem Rd.len {w : World} {B : Nat} {a : Option Addr} {cap : Nat} {l : List α} (h : Rd E n w B a cap l) : l.length ≤ cap ∧ cap ≤ 9223372036854775807 := by
  obtain ⟨F, h1, _⟩ := h
  have := h1.2.1; unfold maxLen at this
  exact ⟨h1.1, by omega⟩
theorem Rd.nil (w : World) (B : Nat) : Rd E n w B none 0 [] := ⟨[], Sl.nil _ _ _ (by simp [maxLen]), by simp⟩
theorem Rd.get {w : World} {B : Nat} {a : Option Addr} {cap : Nat} {l : List α} (h : Rd E n w B a cap l) (i : Nat) (hi : i < l.length) :
    ∃ b o F, a = some ⟨b, o, none⟩ ∧ b < B ∧ E w b (o + i * n) l[i] F ∧ ∀ f ∈ F, f < B := by
  obtain ⟨F, ⟨h1, h2, h3, h4⟩, hF⟩ := h
  obtain ⟨b, o, F', ha, rfl, hr⟩ := h4 (by rintro rfl; simp at hi)
  obtain ⟨G, hv, hG⟩ := hr.get i hi
  exact ⟨b, o, G, ha, hF b (by simp), hv, fun f hf => hF f (by simp [hG f hf])⟩
theorem Ow.read {w : World} {lo hi cap : Nat} {a : Option Addr} {l : List α} (h : Ow E n w lo hi a cap l) : Rd E n w hi a cap l := by
  obtain ⟨F, h1, _, h2⟩ := h
  exact ⟨F, h1, fun f hf => (h2 f hf).2.1⟩
theorem Ow.agree (hE : Loc E n) {w w' : World} {lo hi cap : Nat} {a : Option Addr} {l : List α} (h : Ow E n w lo hi a cap l) (hw : ∀ f, lo ≤ f → f < hi → w'.heap[f]? = w.heap[f]?) : Ow E n w' lo hi a cap l := by
  obtain ⟨F, h1, h2, h3⟩ := h
  exact ⟨F, h1.agree hE (fun f hf => hw f (h3 f hf).1 (h3 f hf).2.1), h2, fun f hf => ⟨(h3 f hf).1, (h3 f hf).2.1, (h3 f hf).2.2.agree (hw f (h3 f hf).1 (h3 f hf).2.1)⟩⟩
theorem Ow.below (hE : Loc E n) {w w' : World} {lo hi cap m : Nat} {a : Option Addr} {l : List α} (h : Ow E n w lo hi a cap l) (hb : Below m w w') (hm : hi ≤ m) : Ow E n w' lo hi a cap l :=
  h.agree hE fun f _ hf => hb.block f (by omega)
theorem Ow.more {w : World} {lo hi lo' hi' cap : Nat} {a : Option Addr} {l : List α} (h : Ow E n w lo hi a cap l) (h1 : lo' ≤ lo) (h2 : hi ≤ hi') : Ow E n w lo' hi' a cap l := by
  obtain ⟨F, a1, a2, a3⟩ := h
  exact ⟨F, a1, a2, fun f hf => ⟨by have := (a3 f hf).1; omega, by have := (a3 f hf).2.1; omega, (a3 f hf).2.2⟩⟩
theorem Ow.nil (w : World) (lo hi : Nat) (a : Option Addr) (cap : Nat) (h : cap ≤ maxLen) : Ow E n w lo hi a cap [] := ⟨[], Sl.nil _ _ _ h, by simp, by simp⟩
/-- A row of N cells in block g that is filled with the list so far. -/
def Fil (E : World → Nat → Nat → α → List Nat → Prop) (n : Nat) (w : World) (g : Nat) (e : TypeId) (N : Nat) (l : List α) : Prop := Blk w g e N ∧ ∃ F, Row E n w g 0 l F ∧ F.Nodup ∧ ∀ f ∈ F, g < f ∧ Unf w f
theorem Fil.below (hE : Loc E n) {w w' : World} {g : Nat} {e : TypeId} {N : Nat} {l : List α} (h : Fil E n w g e N l) (hb : Below w.heap.size w w') : Fil E n w' g e N l := by
  obtain ⟨h1, F, h2, h3, h4⟩ := h
  have hg := h1.unf.lt
  exact ⟨h1.below hb hg, F, h2.agree hE l (Cells.of_block (hb.block g hg) _ _) (fun f hf => hb.block f (h4 f hf).2.lt), h3, fun f hf => ⟨(h4 f hf).1, (h4 f hf).2.agree (hb.block f (h4 f hf).2.lt)⟩⟩
theorem Fil.start {w : World} {g : Nat} {e : TypeId} {N : Nat} (h : Blk w g e N) : Fil E n w g e N [] := ⟨h, [], rfl, by simp, by simp⟩
theorem Fil.done {w : World} {g : Nat} {e : TypeId} {N cap : Nat} {l : List α} (h : Fil E n w g e N l) (hc : l.length ≤ cap) (hm : cap ≤ maxLen) : Ow E n w g w.heap.size (some ⟨g, 0, none⟩) cap l := by
  obtain ⟨h1, F, h2, h3, h4⟩ := h
  by_cases hl : l = []
  · subst hl
    exact Ow.nil _ _ _ _ _ hm
  · refine ⟨g :: F, ⟨hc, hm, fun h => absurd h hl, fun _ => ⟨g, 0, F, rfl, rfl, h2⟩⟩, ?_, ?_⟩
    · rw [List.nodup_cons]
      exact ⟨fun hg => by have := (h4 g hg).1; omega, h3⟩
    · intro f hf
      rcases List.mem_cons.1 hf with rfl | hf
      · exact ⟨Nat.le_refl _, h1.unf.lt, h1.unf⟩
      · exact ⟨Nat.le_of_lt (h4 f hf).1, (h4 f hf).2.lt, (h4 f hf).2⟩
/-- One element more. w: before; w3: behind the stores into block g. -/
theorem Fil.step (hE : Loc E n) {w w3 : World} {g : Nat} {e : TypeId} {N : Nat} {l : List α} (h : Fil E n w g e N l) (hblk : Blk w3 g e N) (hout : ∀ f, f ≠ g → f < w.heap.size → w3.heap[f]? = w.heap[f]?)
    (hcell : ∀ i, i < l.length * n → w3.cell? ⟨g, i, none⟩ = w.cell? ⟨g, i, none⟩) {x : α} {G : List Nat} {o : Nat} (ho : o = l.length * n) (hx : E w3 g o x G) (hG : G.Nodup) (hG2 : ∀ f ∈ G, w.heap.size ≤ f ∧ Unf w3 f) :
    Fil E n w3 g e N (l ++ [x]) := by
  subst ho
  obtain ⟨h1, F, h2, h3, h4⟩ := h
  have hg := h1.unf.lt
  have hlt : ∀ f ∈ F, f < w.heap.size := fun f hf => (h4 f hf).2.lt
  refine ⟨hblk, F ++ G, Row.snoc (h2.agree hE l (fun i _ hi => hcell i (by omega)) (fun f hf => hout f (by have := (h4 f hf).1; omega) (hlt f hf))) (by rw [Nat.zero_add]; exact hx), ?_, ?_⟩
  · rw [List.nodup_append]
    refine ⟨h3, hG, ?_⟩
    intro x hx y hy e
    have := hlt x hx
    have := (hG2 y hy).1
    omega
  · intro f hf
    rcases List.mem_append.1 hf with hf | hf
    · exact ⟨(h4 f hf).1, (h4 f hf).2.agree (hout f (by have := (h4 f hf).1; omega) (hlt f hf))⟩
    · exact ⟨by have := (hG2 f hf).1; omega, (hG2 f hf).2⟩
end
/-! ### Steps of a path, losses -/
abbrev St := Int × Bool
def EStep (w : World) (b o : Nat) (s : St) (F : List Nat) : Prop := F = [] ∧ w.cell? ⟨b, o, none⟩ = some (.int .i64 s.1) ∧ w.cell? ⟨b, o + 1, none⟩ = some (.bool s.2) ∧ I64 s.1
theorem EStep.loc : Loc EStep 2 := by
  intro x w w' b o F h hc _
  obtain ⟨h0, h1, h2, h3⟩ := h
  exact ⟨h0, by rw [hc _ (by omega) (by omega)]; exact h1, by rw [hc _ (by omega) (by omega)]; exact h2, h3⟩
abbrev Lo := Int × List St
def ELoss (w : World) (b o : Nat) (x : Lo) (F : List Nat) : Prop := w.cell? ⟨b, o, none⟩ = some (.int .i64 x.1) ∧ I64 x.1 ∧ ∃ a cap, w.cell? ⟨b, o + 1, none⟩ = some (.slice a x.2.length cap) ∧ Sl EStep 2 w a cap x.2 F
theorem ELoss.loc : Loc ELoss 2 := by
  intro x w w' b o F h hc hF
  obtain ⟨h1, h2, a, cap, h3, h4⟩ := h
  exact ⟨by rw [hc _ (by omega) (by omega)]; exact h1, h2, a, cap, by rw [hc _ (by omega) (by omega)]; exact h3, h4.agree EStep.loc hF⟩
theorem Rd.step {w : World} {B : Nat} {a : Option Addr} {cap : Nat} {l : List St} (h : Rd EStep 2 w B a cap l) (i : Nat) (hi : i < l.length) :
    ∃ b o, a = some ⟨b, o, none⟩ ∧ b < B ∧ w.cell? ⟨b, o + i * 2, none⟩ = some (.int .i64 l[i].1) ∧ w.cell? ⟨b, o + i * 2 + 1, none⟩ = some (.bool l[i].2) ∧ I64 l[i].1 := by
  obtain ⟨b, o, F, ha, hb, ⟨_, h1, h2, h3⟩, _⟩ := h.get i hi
  exact ⟨b, o, ha, hb, h1, h2, h3⟩
theorem Rd.loss {w : World} {B : Nat} {a : Option Addr} {cap : Nat} {l : List Lo} (h : Rd ELoss 2 w B a cap l) (i : Nat) (hi : i < l.length) :
    ∃ b o a' cap', a = some ⟨b, o, none⟩ ∧ b < B ∧ w.cell? ⟨b, o + i * 2, none⟩ = some (.int .i64 l[i].1) ∧ w.cell? ⟨b, o + i * 2 + 1, none⟩ = some (.slice a' l[i].2.length cap') ∧ I64 l[i].1 ∧ Rd EStep 2 w B a' cap' l[i].2 := by
  obtain ⟨b, o, F, ha, hb, ⟨h1, h2, a', cap', h3, h4⟩, hF⟩ := h.get i hi
  exact ⟨b, o, a', cap', ha, hb, h1, h3, h2, F, h4, hF⟩
/-- The weight that the laws' size functions take. -/
def szLo (l : List Lo) : Nat := l.length + (l.map (·.2.length)).sum
theorem szLo_append (a b : List Lo) : szLo (a ++ b) = szLo a + szLo b := by
  unfold szLo; simp only [List.length_append, List.map_append, List.sum_append]; omega
theorem szLo_take_succ (l : List Lo) (k : Nat) (h : k < l.length) : szLo (l.take (k + 1)) = szLo (l.take k) + (1 + l[k].2.length) := by
  rw [take_snoc l k h, szLo_append]
  have e : szLo [l[k]] = 1 + l[k].2.length := by simp [szLo]
  rw [e]
theorem szLo_take_le (l : List Lo) (k : Nat) : szLo (l.take k) ≤ szLo l := by
  have := szLo_append (l.take k) (l.drop k)
  rw [List.take_append_drop] at this; omega
theorem szLo_get (l : List Lo) (k : Nat) (h : k < l.length) : 1 + l[k].2.length ≤ szLo l := by
  have := szLo_take_succ l k h
  have := szLo_take_le l (k + 1)
  omega
theorem length_le_szLo (l : List Lo) : l.length ≤ szLo l := by unfold szLo; omega
/-- Two stores, one behind the other. -/
def st2 (w : World) (g o : Nat) (v0 v1 : Value) : World := (w.setCell ⟨g, o, none⟩ v0).setCell ⟨g, o + 1, none⟩ v1
section
variable {w : World} {g o : Nat} {e : TypeId} {n : Nat} {v0 v1 : Value}
theorem st2_blk (h : Blk w g e n) : Blk (st2 w g o v0 v1) g e n := (h.set_ _ _).set_ _ _
theorem st2_heap (k : Nat) (hk : k ≠ g) : (st2 w g o v0 v1).heap[k]? = w.heap[k]? := by unfold st2; rw [heap_miss _ _ _ _ hk, heap_miss _ _ _ _ hk]
theorem st2_size : (st2 w g o v0 v1).heap.size = w.heap.size := by unfold st2; simp only [size_set]
theorem st2_miss (i : Nat) (hi : i < o ∨ o + 2 ≤ i) : (st2 w g o v0 v1).cell? ⟨g, i, none⟩ = w.cell? ⟨g, i, none⟩ := by
  unfold st2; rw [cell_miss _ _ _ _ (by omega), cell_miss _ _ _ _ (by omega)]
theorem st2_hit0 (h : Blk w g e n) (ho : o + 2 ≤ n) : (st2 w g o v0 v1).cell? ⟨g, o, none⟩ = some v0 := by
  unfold st2; rw [cell_miss _ _ _ _ (by omega)]; exact h.hit _ (by omega) _
theorem st2_hit1 (h : Blk w g e n) (ho : o + 2 ≤ n) : (st2 w g o v0 v1).cell? ⟨g, o + 1, none⟩ = some v1 := by
  unfold st2; exact (h.set_ _ _).hit _ (by omega) _
theorem st2_below (B : Nat) (hB : B ≤ g) : Below B w (st2 w g o v0 v1) := by
  unfold st2
  exact ((Below.refl B w).setCell (p := ⟨g, o, none⟩) hB _).setCell (p := ⟨g, o + 1, none⟩) hB _
end
end Go.Proofs.Ytmajklgjmghjlaa
