/- Texts of this proof, merged: Gen, Open, OpenL, Kit, BytesF, Mark. No condition beyond what each theorem states. -/
import Derived.Test.YtggdenkmohnijaaGreatDoorZO1
import Derived.Deep.QuietTactic
import Derived.BigQuiet
set_option linter.unusedSimpArgs false
set_option linter.unnecessarySimpa false
namespace Go.Proofs.YtggdenkmohnijaaGreatDoor
open Go.ChangeShapes Go.WideShapes Go.ChangeAt Go.RowKit Go.Joins
set_option linter.unusedVariables false
set_option maxRecDepth 100000
section
variable {α : Type}
def Row (E : World → Nat → Nat → α → List Nat → Prop) (n : Nat) (w : World) (b o : Nat) : List α → List Nat → Prop
 | [], F => F = []
 | x :: r, F => ∃ F1 F2, F = F1 ++ F2 ∧ E w b o x F1 ∧ Row E n w b (o + n) r F2
def Sl (E : World → Nat → Nat → α → List Nat → Prop) (n : Nat) (w : World) (a : Option Addr) (cap : Nat) (l : List α) (F : List Nat) : Prop :=
 l.length ≤ cap ∧ cap ≤ maxLen ∧ (l = [] → F = []) ∧ (l ≠ [] → ∃ b o F', a = some ⟨b, o, none⟩ ∧ F = b :: F' ∧ Row E n w b o l F')
def Rd (E : World → Nat → Nat → α → List Nat → Prop) (n : Nat) (w : World) (B : Nat) (a : Option Addr) (cap : Nat) (l : List α) : Prop := ∃ F, Sl E n w a cap l F ∧ ∀ f ∈ F, f < B
def Ow (E : World → Nat → Nat → α → List Nat → Prop) (n : Nat) (w : World) (lo hi : Nat) (a : Option Addr) (cap : Nat) (l : List α) : Prop := ∃ F, Sl E n w a cap l F ∧ F.Nodup ∧ ∀ f ∈ F, lo ≤ f ∧ f < hi ∧ Unf w f
def Loc (E : World → Nat → Nat → α → List Nat → Prop) (n : Nat) : Prop := ∀ (x : α) {w w' : World} {b o : Nat} {F : List Nat}, E w b o x F → Cells w w' b o (o + n) → Agree w w' F → E w' b o x F
variable {E : World → Nat → Nat → α → List Nat → Prop} {n : Nat}
theorem Row.agree (hE : Loc E n) {w w' : World} {b : Nat} : ∀ (l : List α) {o : Nat} {F : List Nat}, Row E n w b o l F → Cells w w' b o (o + l.length * n) → Agree w w' F → Row E n w' b o l F := by
 intro l
 induction l with
 | nil => intro o F h _ _; exact h
 | cons t r ih =>
  intro o F h hb hF
  obtain ⟨F1, F2, rfl, h1, h2⟩ := h
  simp only [List.length_cons, Nat.add_mul, Nat.one_mul] at hb
  exact ⟨F1, F2, rfl, hE t h1 (hb.part (Nat.le_refl _) (by omega)) hF.left, ih h2 (hb.part (by omega) (by omega)) hF.right⟩
theorem Row.snoc {w : World} {b : Nat} {t : α} {G : List Nat} : ∀ {l : List α} {o : Nat} {F : List Nat}, Row E n w b o l F → E w b (o + l.length * n) t G → Row E n w b o (l ++ [t]) (F ++ G) := by
 intro l
 induction l with
 | nil =>
  intro o F h hv
  simp only [Row] at h
  subst h
  simp only [List.nil_append, List.length_nil, Nat.zero_mul, Nat.add_zero] at hv ⊢
  exact ⟨G, [], by simp, hv, rfl⟩
 | cons u r ih =>
  intro o F h hv
  obtain ⟨F1, F2, rfl, h1, h2⟩ := h
  simp only [List.length_cons, Nat.add_mul, Nat.one_mul] at hv
  refine ⟨F1, F2 ++ G, by simp, h1, ih h2 ?_⟩
  rw [show o + n + r.length * n = o + (r.length * n + n) from by omega]
  exact hv
theorem Row.get {w : World} {b : Nat} : ∀ {l : List α} {o : Nat} {F : List Nat}, Row E n w b o l F → ∀ (i : Nat) (h : i < l.length), ∃ F', E w b (o + i * n) l[i] F' ∧ ∀ f ∈ F', f ∈ F := by
 intro l
 induction l with
 | nil => intro o F _ i h; simp at h
 | cons t r ih =>
  intro o F h i hi
  obtain ⟨F1, F2, rfl, h1, h2⟩ := h
  cases i with
  | zero => exact ⟨F1, by simpa using h1, fun f hf => by simp [hf]⟩
  | succ i =>
   obtain ⟨F', hv, hm⟩ := ih h2 i (by simpa using hi)
   refine ⟨F', ?_, fun f hf => by simp [hm f hf]⟩
   rw [show o + (i + 1) * n = o + n + i * n from by rw [Nat.add_mul]; omega]
   simpa using hv
theorem Sl.agree (hE : Loc E n) {w w' : World} {a : Option Addr} {cap : Nat} {l : List α} {F : List Nat} (h : Sl E n w a cap l F) (hF : Agree w w' F) : Sl E n w' a cap l F := by
 obtain ⟨h1, h2, h3, h4⟩ := h
 refine ⟨h1, h2, h3, fun hne => ?_⟩
 obtain ⟨b, o, F', ha, rfl, hr⟩ := h4 hne
 exact ⟨b, o, F', ha, rfl, hr.agree hE l (Cells.of_block (hF b (by simp)) _ _) (fun f hf => hF f (by simp [hf]))⟩
theorem Sl.nil (w : World) (a : Option Addr) (cap : Nat) (h : cap ≤ maxLen) : Sl E n w a cap [] [] := ⟨by simp, h, fun _ => rfl, fun h => absurd rfl h⟩
theorem Rd.below (hE : Loc E n) {w w' : World} {B B' : Nat} {a : Option Addr} {cap : Nat} {l : List α} (h : Rd E n w B a cap l) (hb : Below B' w w') (hB : B ≤ B') : Rd E n w' B a cap l := by
 obtain ⟨F, h1, h2⟩ := h
 exact ⟨F, h1.agree hE (fun f hf => hb.block f (by have := h2 f hf; omega)), h2⟩
theorem Rd.more {w : World} {B B' : Nat} {a : Option Addr} {cap : Nat} {l : List α} (h : Rd E n w B a cap l) (hB : B ≤ B') : Rd E n w B' a cap l := by
 obtain ⟨F, h1, h2⟩ := h
 exact ⟨F, h1, fun f hf => Nat.lt_of_lt_of_le (h2 f hf) hB⟩
theorem Rd.len {w : World} {B : Nat} {a : Option Addr} {cap : Nat} {l : List α} (h : Rd E n w B a cap l) : l.length ≤ cap ∧ cap ≤ 9223372036854775807 := by
 obtain ⟨F, h1, _⟩ := h
 have := h1.2.1; unfold maxLen at this
 exact ⟨h1.1, by omega⟩
theorem Rd.nil (w : World) (B : Nat) : Rd E n w B none 0 [] := ⟨[], Sl.nil _ _ _ (by simp [maxLen]), by simp⟩
theorem Rd.get {w : World} {B : Nat} {a : Option Addr} {cap : Nat} {l : List α} (h : Rd E n w B a cap l) (i : Nat) (hi : i < l.length) :
  ∃ b o F, a = some ⟨b, o, none⟩ ∧ b < B ∧ E w b (o + i * n) l[i] F ∧ ∀ f ∈ F, f < B := by
 obtain ⟨F, ⟨h1, h2, h3, h4⟩, hF⟩ := h
 obtain ⟨b, o, F', ha, rfl, hr⟩ := h4 (by rintro rfl; simp at hi)
 obtain ⟨G, hv, hG⟩ := hr.get i hi
 exact ⟨b, o, G, ha, hF b (by simp), hv, fun f hf => hF f (by simp [hG f hf])⟩
theorem Ow.read {w : World} {lo hi cap : Nat} {a : Option Addr} {l : List α} (h : Ow E n w lo hi a cap l) : Rd E n w hi a cap l := by
 obtain ⟨F, h1, _, h2⟩ := h
 exact ⟨F, h1, fun f hf => (h2 f hf).2.1⟩
theorem Ow.agree (hE : Loc E n) {w w' : World} {lo hi cap : Nat} {a : Option Addr} {l : List α} (h : Ow E n w lo hi a cap l) (hw : ∀ f, lo ≤ f → f < hi → w'.heap[f]? = w.heap[f]?) : Ow E n w' lo hi a cap l := by
 obtain ⟨F, h1, h2, h3⟩ := h
 exact ⟨F, h1.agree hE (fun f hf => hw f (h3 f hf).1 (h3 f hf).2.1), h2, fun f hf => ⟨(h3 f hf).1, (h3 f hf).2.1, (h3 f hf).2.2.agree (hw f (h3 f hf).1 (h3 f hf).2.1)⟩⟩
theorem Ow.below (hE : Loc E n) {w w' : World} {lo hi cap m : Nat} {a : Option Addr} {l : List α} (h : Ow E n w lo hi a cap l) (hb : Below m w w') (hm : hi ≤ m) : Ow E n w' lo hi a cap l :=
 h.agree hE fun f _ hf => hb.block f (by omega)
theorem Ow.more {w : World} {lo hi lo' hi' cap : Nat} {a : Option Addr} {l : List α} (h : Ow E n w lo hi a cap l) (h1 : lo' ≤ lo) (h2 : hi ≤ hi') : Ow E n w lo' hi' a cap l := by
 obtain ⟨F, a1, a2, a3⟩ := h
 exact ⟨F, a1, a2, fun f hf => ⟨by have := (a3 f hf).1; omega, by have := (a3 f hf).2.1; omega, (a3 f hf).2.2⟩⟩
theorem Ow.nil (w : World) (lo hi : Nat) (a : Option Addr) (cap : Nat) (h : cap ≤ maxLen) : Ow E n w lo hi a cap [] := ⟨[], Sl.nil _ _ _ h, by simp, by simp⟩
def Fil (E : World → Nat → Nat → α → List Nat → Prop) (n : Nat) (w : World) (g : Nat) (e : TypeId) (N : Nat) (l : List α) : Prop := Blk w g e N ∧ ∃ F, Row E n w g 0 l F ∧ F.Nodup ∧ ∀ f ∈ F, g < f ∧ Unf w f
theorem Fil.below (hE : Loc E n) {w w' : World} {g : Nat} {e : TypeId} {N : Nat} {l : List α} (h : Fil E n w g e N l) (hb : Below w.heap.size w w') : Fil E n w' g e N l := by
 obtain ⟨h1, F, h2, h3, h4⟩ := h
 have hg := h1.unf.lt
 exact ⟨h1.below hb hg, F, h2.agree hE l (Cells.of_block (hb.block g hg) _ _) (fun f hf => hb.block f (h4 f hf).2.lt), h3, fun f hf => ⟨(h4 f hf).1, (h4 f hf).2.agree (hb.block f (h4 f hf).2.lt)⟩⟩
theorem Fil.done {w : World} {g : Nat} {e : TypeId} {N cap : Nat} {l : List α} (h : Fil E n w g e N l) (hc : l.length ≤ cap) (hm : cap ≤ maxLen) : Ow E n w g w.heap.size (some ⟨g, 0, none⟩) cap l := by
 obtain ⟨h1, F, h2, h3, h4⟩ := h
 by_cases hl : l = []
 ·subst hl
  exact Ow.nil _ _ _ _ _ hm
 ·refine ⟨g :: F, ⟨hc, hm, fun h => absurd h hl, fun _ => ⟨g, 0, F, rfl, rfl, h2⟩⟩, ?_, ?_⟩
  ·rw [List.nodup_cons]
   exact ⟨fun hg => by have := (h4 g hg).1; omega, h3⟩
  ·intro f hf
   rcases List.mem_cons.1 hf with rfl | hf
   ·exact ⟨Nat.le_refl _, h1.unf.lt, h1.unf⟩
   ·exact ⟨Nat.le_of_lt (h4 f hf).1, (h4 f hf).2.lt, (h4 f hf).2⟩
theorem Fil.step (hE : Loc E n) {w w3 : World} {g : Nat} {e : TypeId} {N : Nat} {l : List α} (h : Fil E n w g e N l) (hblk : Blk w3 g e N) (hout : ∀ f, f ≠ g → f < w.heap.size → w3.heap[f]? = w.heap[f]?)
  (hcell : ∀ i, i < l.length * n → w3.cell? ⟨g, i, none⟩ = w.cell? ⟨g, i, none⟩) {x : α} {G : List Nat} {o : Nat} (ho : o = l.length * n) (hx : E w3 g o x G) (hG : G.Nodup) (hG2 : ∀ f ∈ G, w.heap.size ≤ f ∧ Unf w3 f) :
  Fil E n w3 g e N (l ++ [x]) := by
 subst ho
 obtain ⟨h1, F, h2, h3, h4⟩ := h
 have hg := h1.unf.lt
 have hlt : ∀ f ∈ F, f < w.heap.size := fun f hf => (h4 f hf).2.lt
 refine ⟨hblk, F ++ G, Row.snoc (h2.agree hE l (fun i _ hi => hcell i (by omega)) (fun f hf => hout f (by have := (h4 f hf).1; omega) (hlt f hf))) (by rw [Nat.zero_add]; exact hx), ?_, ?_⟩
 ·rw [List.nodup_append]
  refine ⟨h3, hG, ?_⟩
  intro x hx y hy e
  have := hlt x hx
  have := (hG2 y hy).1
  omega
 ·intro f hf
  rcases List.mem_append.1 hf with hf | hf
  ·exact ⟨(h4 f hf).1, (h4 f hf).2.agree (hout f (by have := (h4 f hf).1; omega) (hlt f hf))⟩
  ·exact ⟨by have := (hG2 f hf).1; omega, (hG2 f hf).2⟩
end
abbrev St := Int × Bool
def EStep (w : World) (b o : Nat) (s : St) (F : List Nat) : Prop := F = [] ∧ w.cell? ⟨b, o, none⟩ = some (.int .i64 s.1) ∧ w.cell? ⟨b, o + 1, none⟩ = some (.bool s.2) ∧ I64 s.1
theorem EStep.loc : Loc EStep 2 := by
 intro x w w' b o F h hc _
 obtain ⟨h0, h1, h2, h3⟩ := h
 exact ⟨h0, by rw [hc _ (by omega) (by omega)]; exact h1, by rw [hc _ (by omega) (by omega)]; exact h2, h3⟩
abbrev Lo := Int × List St
def ELoss (w : World) (b o : Nat) (x : Lo) (F : List Nat) : Prop := w.cell? ⟨b, o, none⟩ = some (.int .i64 x.1) ∧ I64 x.1 ∧ ∃ a cap, w.cell? ⟨b, o + 1, none⟩ = some (.slice a x.2.length cap) ∧ Sl EStep 2 w a cap x.2 F
theorem ELoss.loc : Loc ELoss 2 := by
 intro x w w' b o F h hc hF
 obtain ⟨h1, h2, a, cap, h3, h4⟩ := h
 exact ⟨by rw [hc _ (by omega) (by omega)]; exact h1, h2, a, cap, by rw [hc _ (by omega) (by omega)]; exact h3, h4.agree EStep.loc hF⟩
theorem Rd.step {w : World} {B : Nat} {a : Option Addr} {cap : Nat} {l : List St} (h : Rd EStep 2 w B a cap l) (i : Nat) (hi : i < l.length) :
  ∃ b o, a = some ⟨b, o, none⟩ ∧ b < B ∧ w.cell? ⟨b, o + i * 2, none⟩ = some (.int .i64 l[i].1) ∧ w.cell? ⟨b, o + i * 2 + 1, none⟩ = some (.bool l[i].2) ∧ I64 l[i].1 := by
 obtain ⟨b, o, F, ha, hb, ⟨_, h1, h2, h3⟩, _⟩ := h.get i hi
 exact ⟨b, o, ha, hb, h1, h2, h3⟩
section
variable {w : World} {g o : Nat} {e : TypeId} {n : Nat} {v0 v1 : Value}
end
section
variable {H : Type} {enc : TypeId × Value → H} {P : Program} {w : World} {base : Nat} {spare : Nat → Bool} {held : Bool}
theorem add_none (b o n : Nat) : (⟨b, o, none⟩ : Addr).add n = ⟨b, o + n, none⟩ := by
 unfold Addr.add
 split
 ·rename_i h; subst h; rfl
 ·rfl
theorem spot_none {a : Addr} {v : Value} (h : w.cell? a = some v) : a = ⟨a.block, a.off, none⟩ := by
 obtain ⟨b, o, s⟩ := a
 cases s with
 | none => rfl
 | some k =>
  unfold World.cell? at h
  split at h <;> simp at h
end
section
variable {H : Type} {enc : TypeId × Value → H} {P : Program} {w : World} {base : Nat} {spare : Nat → Bool} {held : Bool}
theorem trod_sl {α : Type} {E : World → Nat → Nat → α → List Nat → Prop} {n : Nat} {t e : TypeId} (ht : P.underlying t = some (.slice e)) (hn : P.cellsOf e = n) (hpos : 0 < n)
    (hE : ∀ (fuel : Nat) (cs : List Value) (x : DataW H × List MemPlace), DataW.trod enc P w base spare held fuel e cs = some x → ∃ (y : α) (F : List Nat), cs.length = n ∧
      (∀ b o, (∀ i, i < n → w.cell? ⟨b, o + i, none⟩ = cs[i]?) → E w b o y F) ∧ ∀ f ∈ F, ∃ p ∈ x.2, p.block = f)
    (fuel : Nat) (cs : List Value) (x : DataW H × List MemPlace) (h : DataW.trod enc P w base spare held fuel t cs = some x) :
    ∃ (l : List α) (a : Option Addr) (cap : Nat) (F : List Nat), cs = [.slice a l.length cap] ∧ Sl E n w a cap l F ∧ ∀ f ∈ F, ∃ p ∈ x.2, p.block = f := by
  rcases DataW.trod_slice ht h with ⟨e4, -⟩ | ⟨a, len, cap, elems, rest, m', hn', e4, hy, -, hlc, hcm, hel, hget, -, -⟩
  · exact ⟨[], none, 0, [], e4, Sl.nil _ _ _ (by simp [maxLen]), by simp⟩
  · subst e4
    have key : ∀ j, j ≤ len → ∃ (l : List α) (F : List Nat), l.length = j ∧ Row E n w a.block a.off l F ∧ (∀ f ∈ F, ∃ p ∈ x.2, p.block = f) ∧ (0 < j → a = ⟨a.block, a.off, none⟩) := by
      intro j
      induction j with
      | zero => intro _; exact ⟨[], [], rfl, rfl, by simp, fun h => absurd h (by omega)⟩
      | succ j ihj =>
        intro hj
        obtain ⟨l, F, hll, hr, hF, ha⟩ := ihj (by omega)
        have hgj := hget j (by omega)
        have hsome : elems[j]? = some (elems[j]'(by omega)) := List.getElem?_eq_getElem (by omega)
        rw [hsome, hn] at hgj
        obtain ⟨cs', hc, ht'⟩ := Option.bind_eq_some_iff.1 hgj
        obtain ⟨y, F', hcl, hEy, hF'⟩ := hE m' cs' _ ht'
        obtain ⟨-, -, hcell⟩ := World.cells?_some hc
        have h0 := hcell 0 hpos
        have hspot : a = ⟨a.block, a.off, none⟩ := by
          by_cases hj0 : j = 0
          · subst hj0
            simp only [Nat.zero_mul, Addr.add, if_true] at h0
            rw [List.getElem?_eq_getElem (by omega)] at h0
            exact spot_none h0
          · exact ha (by omega)
        rw [hspot] at hcell
        simp only [add_none] at hcell
        refine ⟨l ++ [y], F ++ F', by simp [hll], Row.snoc hr ?_, ?_, fun _ => hspot⟩
        · rw [hll]
          exact hEy _ _ fun i hi => hcell i hi
        · intro f hf
          rcases List.mem_append.1 hf with hf | hf
          · exact hF f hf
          · obtain ⟨p, hp, hb⟩ := hF' f hf
            refine ⟨p, ?_, hb⟩
            rw [hy]
            simp only [List.mem_append, List.mem_flatMap]
            exact Or.inr ⟨_, Or.inl (List.getElem_mem (by omega)), hp⟩
    obtain ⟨l, F, hll, hr, hF, ha⟩ := key len (Nat.le_refl _)
    by_cases hle : l = []
    · subst hle
      simp only [List.length_nil] at hll
      subst hll
      exact ⟨[], some a, cap, [], rfl, Sl.nil _ _ _ hcm, by simp⟩
    · have hpos' : 0 < len := by
        rcases Nat.eq_zero_or_pos len with h0 | h0
        · exact absurd (List.eq_nil_of_length_eq_zero (by omega)) hle
        · exact h0
      refine ⟨l, some a, cap, a.block :: F, by rw [hll], ⟨by omega, hcm, fun h => absurd h hle, fun _ => ⟨a.block, a.off, F, by rw [← ha hpos'], rfl, hr⟩⟩, ?_⟩
      intro f hf
      rcases List.mem_cons.1 hf with rfl | hf
      · refine ⟨.cell a.block (a.off + 0), ?_, rfl⟩
        rw [hy, hn]
        simp only [List.mem_append]
        refine Or.inl ?_
        simp only [MemPlace.row, List.mem_map, List.mem_range]
        exact ⟨0, by rw [hel]; have := Nat.mul_le_mul (show 1 ≤ len + rest.length from by omega) (show 1 ≤ n from hpos); omega, rfl⟩
      · exact hF f hf
end
theorem R.fwd {w w' : World} {a : Option Addr} {cap : Nat} {l : List T} (h : R w w.heap.size a cap l) (hb : Below w.heap.size w w') : R w' w'.heap.size a cap l := (h.below hb (Nat.le_refl _)).more hb.size
theorem Rd.fwd {α : Type} {E : World → Nat → Nat → α → List Nat → Prop} {n : Nat} (hE : Loc E n) {w w' : World} {a : Option Addr} {cap : Nat} {l : List α} (h : Rd E n w w.heap.size a cap l) (hb : Below w.heap.size w w') : Rd E n w' w'.heap.size a cap l := (h.below hE hb (Nat.le_refl _)).more hb.size
def Beside (lo hi : Nat) (w w' : World) : Prop := Below lo w w' ∧ ∀ f, hi ≤ f → f < w.heap.size → w'.heap[f]? = w.heap[f]?
theorem Beside.refl (lo hi : Nat) (w : World) : Beside lo hi w w := ⟨Below.refl _ _, fun _ _ _ => rfl⟩
theorem Beside.trans {lo hi : Nat} {w w1 w2 : World} (h : Beside lo hi w w1) (h2 : Beside lo hi w1 w2) : Beside lo hi w w2 :=
 ⟨h.1.trans h2.1, fun f hf hl => (h2.2 f hf (Nat.lt_of_lt_of_le hl h.1.size)).trans (h.2 f hf hl)⟩
theorem Beside.more {lo hi lo' hi' : Nat} {w w' : World} (h : Beside lo hi w w') (h1 : lo' ≤ lo) (h2 : hi ≤ hi') : Beside lo' hi' w w' := ⟨h.1.mono h1, fun f hf => h.2 f (by omega)⟩
theorem Beside.of_below {lo hi n : Nat} {w w' : World} (h : Below n w w') (hn : w.heap.size ≤ n) (hl : lo ≤ n) : Beside lo hi w w' := ⟨h.mono hl, fun f _ hf => h.block f (by omega)⟩
theorem Is.agree {w w' : World} {g : Nat} {e : TypeId} {cs : Array Value} (h : Is w g e cs) (hg : w'.heap[g]? = w.heap[g]?) : Is w' g e cs := hg.trans h
def EInt (w : World) (b o : Nat) (x : Int) (F : List Nat) : Prop := F = [] ∧ w.cell? ⟨b, o, none⟩ = some (.int .i64 x) ∧ I64 x
theorem EInt.loc : Loc EInt 1 := by
 intro x w w' b o F h hc _
 obtain ⟨h0, h1, h2⟩ := h
 exact ⟨h0, by rw [hc _ (by omega) (by omega)]; exact h1, h2⟩
theorem Rd.int {w : World} {B : Nat} {a : Option Addr} {cap : Nat} {l : List Int} (h : Rd EInt 1 w B a cap l) (i : Nat) (hi : i < l.length) :
  ∃ b o, a = some ⟨b, o, none⟩ ∧ b < B ∧ w.cell? ⟨b, o + i, none⟩ = some (.int .i64 l[i]) ∧ I64 l[i] := by
 obtain ⟨b, o, F, ha, hb, ⟨_, h1, h2⟩, _⟩ := h.get i hi
 exact ⟨b, o, ha, hb, by simpa using h1, h2⟩
def U8 (n : Int) : Prop := 0 ≤ n ∧ n ≤ 255
def EByte (w : World) (b o : Nat) (x : Int) (F : List Nat) : Prop := F = [] ∧ w.cell? ⟨b, o, none⟩ = some (.int .u8 x) ∧ U8 x
theorem EByte.loc : Loc EByte 1 := by
 intro x w w' b o F h hc _
 obtain ⟨h0, h1, h2⟩ := h
 exact ⟨h0, by rw [hc _ (by omega) (by omega)]; exact h1, h2⟩
theorem Rd.byte {w : World} {B : Nat} {a : Option Addr} {cap : Nat} {l : List Int} (h : Rd EByte 1 w B a cap l) (i : Nat) (hi : i < l.length) :
  ∃ b o, a = some ⟨b, o, none⟩ ∧ b < B ∧ w.cell? ⟨b, o + i, none⟩ = some (.int .u8 l[i]) ∧ U8 l[i] := by
 obtain ⟨b, o, F, ha, hb, ⟨_, h1, h2⟩, _⟩ := h.get i hi
 exact ⟨b, o, ha, hb, by simpa using h1, h2⟩
theorem U8.of_wf {n : Int} (h : (Lit.int .u8 n).wf = true) : U8 n := by
 unfold U8
 have := h
 simp [Lit.wf, IntKind.min, IntKind.max, IntKind.signed, IntKind.bits] at this
 omega
theorem open_lawBytes {H : Type} {enc : TypeId × Value → H} {w : World} {r : Reach} {b0 : Nat} {v : Value} {d : DataW H} {p : List MemPlace} (hok : Value.okWide Tryz.prog w r b0 22 v) (h : DataW.Trod enc Tryz.prog w 0 (fun _ => true) true 22 v d p) :
  ∃ (t : List Int) (a : Option Addr) (cap : Nat), v = .slice a t.length cap ∧ True ∧ ∀ B, (∀ x ∈ p, x.block < B) → Rd EByte 1 w B a cap t := by
 obtain ⟨a0, len, cap0, rfl⟩ := okWide_slice Tryz.underlying22 hok
 obtain ⟨fuel, hf⟩ := h
 obtain ⟨l, a, cap, F, hcs, hsl, hF⟩ := trod_sl (E := EByte) Tryz.underlying22 (n := 1) (by kernel_rfl) (by omega) (fun fuel cs x h => by
  obtain ⟨k, e0, -, w0⟩ := DataW.trod_int Tryz.underlying5 h
  refine ⟨k, [], by rw [e0]; rfl, fun bb o hc => ⟨rfl, ?_, U8.of_wf w0⟩, by simp⟩
  subst e0
  simpa using hc 0 (by omega)) fuel _ _ hf
 refine ⟨l, a, cap, ?_, trivial, fun B hB => ⟨F, hsl, fun f hf => ?_⟩⟩
 ·simpa [Value.cells] using hcs
 ·obtain ⟨q, hq, rfl⟩ := hF f hf
  exact hB q hq
structure Touch (F : List Nat) (w w' : World) : Prop where
 os : w'.os = w.os
 tape : w'.tape = w.tape
 output : w'.output = w.output
 size : w.heap.size ≤ w'.heap.size
 block : ∀ f, f < w.heap.size → f ∉ F → w'.heap[f]? = w.heap[f]?
 unf : ∀ f, Unf w f → Unf w' f
theorem Touch.refl (F : List Nat) (w : World) : Touch F w w := ⟨rfl, rfl, rfl, Nat.le_refl _, fun _ _ _ => rfl, fun _ h => h⟩
theorem Touch.trans {F : List Nat} {w w1 w2 : World} (h : Touch F w w1) (k : Touch F w1 w2) : Touch F w w2 :=
 ⟨k.os.trans h.os, k.tape.trans h.tape, k.output.trans h.output, Nat.le_trans h.size k.size, fun f hf hn => (k.block f (Nat.lt_of_lt_of_le hf h.size) hn).trans (h.block f hf hn), fun f hf => k.unf f (h.unf f hf)⟩
theorem Touch.mono {F G : List Nat} {w w' : World} (h : Touch F w w') (hs : ∀ f ∈ F, f ∈ G) : Touch G w w' := ⟨h.os, h.tape, h.output, h.size, fun f hf hn => h.block f hf (fun hh => hn (hs f hh)), h.unf⟩
theorem Touch.of_below {F : List Nat} {w w' : World} (h : Below w.heap.size w w') : Touch F w w' :=
 ⟨h.os, h.tape, h.output, h.size, fun f hf _ => h.block f hf, fun f hf => hf.agree (h.block f hf.lt)⟩
theorem Touch.set (w : World) (b o : Nat) (v : Value) : Touch [b] w (w.setCell ⟨b, o, none⟩ v) := by
 refine ⟨rfl, rfl, rfl, by rw [size_set]; exact Nat.le_refl _, fun f _ hn => heap_miss w b o f (by simpa using hn) v, fun f ⟨c, e, h⟩ => ?_⟩
 by_cases hf : f = b
 ·subst hf
  exact ⟨c.setIfInBounds o v, e, by simp [World.setCell, Array.getElem?_modify, h]⟩
 ·exact ⟨c, e, (heap_miss w b o f hf v).trans h⟩
theorem Touch.below {F : List Nat} {w w' : World} {lo : Nat} (h : Touch F w w') (hl : lo ≤ w.heap.size) (hF : ∀ f ∈ F, lo ≤ f) : Below lo w w' :=
 ⟨h.os, h.tape, h.output, h.size, fun f hf => h.block f (by omega) (fun hm => by have := hF f hm; omega)⟩
section
variable {α : Type} {E : World → Nat → Nat → α → List Nat → Prop} {n : Nat}
theorem Row.split {w : World} {b : Nat} {A B : List α} {o : Nat} {F : List Nat} (h : Row E n w b o (A ++ B) F) : ∃ F1 F2, F = F1 ++ F2 ∧ Row E n w b o A F1 ∧ Row E n w b (o + A.length * n) B F2 := by
 induction A generalizing o F with
 | nil => exact ⟨[], F, rfl, rfl, by simpa using h⟩
 | cons x A ih =>
  obtain ⟨G1, G2, rfl, h1, h2⟩ := h
  obtain ⟨F1, F2, rfl, k1, k2⟩ := ih h2
  refine ⟨G1 ++ F1, F2, by simp, ⟨G1, F1, rfl, h1, k1⟩, ?_⟩
  rw [List.length_cons, Nat.add_mul, show o + (A.length * n + 1 * n) = o + n + A.length * n from by omega]
  exact k2
theorem Row.join {w : World} {b : Nat} {A B : List α} {o : Nat} {F1 F2 : List Nat} (h1 : Row E n w b o A F1) (h2 : Row E n w b (o + A.length * n) B F2) : Row E n w b o (A ++ B) (F1 ++ F2) := by
 induction A generalizing o F1 with
 | nil => obtain rfl : F1 = [] := h1; simpa using h2
 | cons x A ih =>
  obtain ⟨G1, G2, rfl, k1, k2⟩ := h1
  rw [List.append_assoc]
  refine ⟨G1, G2 ++ F2, rfl, k1, ih k2 ?_⟩
  rw [List.length_cons, Nat.add_mul, show o + (A.length * n + 1 * n) = o + n + A.length * n from by omega] at h2
  exact h2
theorem Row.put (hE : Loc E n) {w w' : World} {b o : Nat} {A B : List α} {x : α} {F : List Nat} (h : Row E n w b o (A ++ x :: B) F) (hF : F.Nodup) (hbF : b ∉ F) :
  ∃ G, (∀ f ∈ G, f ∈ F) ∧ E w b (o + A.length * n) x G ∧ G.Nodup ∧
   ∀ {w' : World} {y : α}, E w' b (o + A.length * n) y G → (∀ i, i < o + A.length * n ∨ o + A.length * n + n ≤ i → w'.cell? ⟨b, i, none⟩ = w.cell? ⟨b, i, none⟩) → (∀ f ∈ F, f ∉ G → w'.heap[f]? = w.heap[f]?) → Row E n w' b o (A ++ y :: B) F := by
 obtain ⟨F1, F2, rfl, h1, h2⟩ := h.split
 obtain ⟨G, F3, rfl, k1, k2⟩ := h2
 obtain ⟨n1, n2, n3⟩ := List.nodup_append.1 hF
 obtain ⟨m1, m2, m3⟩ := List.nodup_append.1 n2
 refine ⟨G, fun f hf => by simp [hf], k1, m1, fun {w' y} hy hc hf => ?_⟩
 refine Row.join (h1.agree hE _ (fun i _ hi => hc i (by omega)) (fun f hm => hf f (by simp [hm]) (fun hg => n3 f hm f (by simp [hg]) rfl))) ?_
 refine ⟨G, F3, rfl, hy, k2.agree hE _ (fun i hi _ => hc i (by omega)) (fun f hm => hf f (by simp [hm]) (fun hg => m3 f hg f hm rfl))⟩
def mkL (me : α → Int → α) (c : α → Nat) : List α → Int → List α
 | [], _ => []
 | x :: r, k => me x k :: mkL me c r (k + c x)
def cL' (c : α → Nat) : List α → Nat | [] => 0 | x :: r => c x + cL' c r
variable {me : α → Int → α} {c : α → Nat}
theorem mkL_length (l : List α) (k : Int) : (mkL me c l k).length = l.length := by
 induction l generalizing k with
 | nil => rfl
 | cons x r ih => simp [mkL, ih]
theorem mkL_snoc (l : List α) (x : α) (k : Int) : mkL me c (l ++ [x]) k = mkL me c l k ++ [me x (k + cL' c l)] := by
 induction l generalizing k with
 | nil => simp [mkL, cL']
 | cons y r ih => simp only [List.cons_append, mkL, ih, cL']; rw [show k + (c y : Int) + (cL' c r : Nat) = k + ((c y + cL' c r : Nat) : Int) from by omega]
def half (me : α → Int → α) (c : α → Nat) (l : List α) (k : Int) (j : Nat) : List α := mkL me c (l.take j) k ++ l.drop j
theorem half_all (l : List α) (k : Int) : half me c l k l.length = mkL me c l k := by simp [half]
theorem half_length (l : List α) (k : Int) (j : Nat) : (half me c l k j).length = l.length := by
 simp only [half, List.length_append, mkL_length, List.length_take, List.length_drop]; omega
theorem half_here (l : List α) (k : Int) (j : Nat) (h : j < l.length) : half me c l k j = mkL me c (l.take j) k ++ l[j] :: l.drop (j + 1) := by
 rw [half, List.drop_eq_getElem_cons h]
theorem half_succ (l : List α) (k : Int) (j : Nat) (h : j < l.length) : half me c l k (j + 1) = mkL me c (l.take j) k ++ me l[j] (k + cL' c (l.take j)) :: l.drop (j + 1) := by
 rw [half, take_snoc l j h, mkL_snoc, List.append_assoc]; rfl
theorem half_pre (l : List α) (k : Int) (j : Nat) (h : j < l.length) : (mkL me c (l.take j) k).length = j := by rw [mkL_length, List.length_take]; omega
def OwF (E : World → Nat → Nat → α → List Nat → Prop) (n : Nat) (w : World) (a : Option Addr) (cap : Nat) (l : List α) (F : List Nat) : Prop := Sl E n w a cap l F ∧ F.Nodup ∧ ∀ f ∈ F, Unf w f
theorem OwF.len {w : World} {a : Option Addr} {cap : Nat} {l : List α} {F : List Nat} (h : OwF E n w a cap l F) : l.length ≤ cap ∧ cap ≤ 9223372036854775807 := by
 have := h.1.2.1; unfold maxLen at this
 exact ⟨h.1.1, by omega⟩
theorem OwF.done {w : World} {a : Option Addr} {cap j : Nat} {l : List α} {F : List Nat} {k : Int} (h : OwF E n w a cap (half me c l k j) F) (hj : l.length = j) : OwF E n w a cap (mkL me c l k) F := by rw [← hj, half_all] at h; exact h
theorem OwF.next (hE : Loc E n) {w : World} {a : Option Addr} {cap j : Nat} {l : List α} {F : List Nat} {k : Int} (h : OwF E n w a cap (half me c l k j) F) (hj : j < l.length) :
  ∃ b o G, a = some ⟨b, o, none⟩ ∧ b ∈ F ∧ Unf w b ∧ b ∉ G ∧ (∀ f ∈ G, f ∈ F) ∧ G.Nodup ∧ E w b (o + j * n) l[j] G ∧
   ∀ w' : World, E w' b (o + j * n) (me l[j] (k + cL' c (l.take j))) G → (∀ i, i < o + j * n ∨ o + j * n + n ≤ i → w'.cell? ⟨b, i, none⟩ = w.cell? ⟨b, i, none⟩) → Touch (b :: G) w w' → OwF E n w' a cap (half me c l k (j + 1)) F := by
 obtain ⟨⟨h1, h2, h3, h4⟩, h5, h6⟩ := h
 have hne : half me c l k j ≠ [] := by intro e; have := half_length (me := me) (c := c) l k j; rw [e] at this; simp at this; omega
 obtain ⟨b, o, F', rfl, rfl, hr⟩ := h4 hne
 rw [half_here l k j hj] at hr
 obtain ⟨hb, hn⟩ := List.nodup_cons.1 h5
 have hp := half_pre (me := me) (c := c) l k j hj
 obtain ⟨G, g1, g2, g3, g4⟩ := Row.put hE (w' := w) hr hn hb
 rw [hp] at g2
 refine ⟨b, o, G, rfl, by simp, h6 b (by simp), fun hg => hb (g1 b hg), fun f hf => by simp [g1 f hf], g3, g2, fun w' hy hc ht => ?_⟩
 refine ⟨⟨by rw [half_length] at h1 ⊢; exact h1, h2, fun e => ?_, fun _ => ⟨b, o, F', rfl, rfl, ?_⟩⟩, h5, fun f hf => ht.unf f (h6 f hf)⟩
 ·have := half_length (me := me) (c := c) l k (j + 1); rw [e] at this; simp at this; omega
 ·rw [half_succ l k j hj]
  refine g4 (by rw [hp]; exact hy) (by rw [hp]; exact hc) (fun f hf hg => ht.block f (h6 f (by simp [hf])).lt ?_)
  rw [List.mem_cons]
  rintro (rfl | hh)
  ·exact hb hf
  ·exact hg hh
end
theorem Unf.frozen {w : World} {b : Nat} (hu : Unf w b) (i : Nat) : w.frozen? ⟨b, i, none⟩ = false := by
 obtain ⟨c, e, hc⟩ := hu
 simp only [World.frozen?, hc]; simp
theorem Unf.set {w : World} {b : Nat} (hu : Unf w b) (b' o : Nat) (v : Value) : Unf (w.setCell ⟨b', o, none⟩ v) b := (Touch.set w b' o v).unf b hu
theorem Touch.one {F : List Nat} {w0 w : World} (h : Touch F w0 w) {b : Nat} (hb : b ∈ F) (o : Nat) (v : Value) : Touch F w0 (w.setCell ⟨b, o, none⟩ v) := h.trans ((Touch.set w b o v).mono (by simpa using hb))
end Go.Proofs.YtggdenkmohnijaaGreatDoor
