/- Contracts and lemmas for the proofs of this seat: SortW. No condition beyond those stated. -/
import Derived.Test.YtmajklgjmghjlaaRows
import Derived.WalkKit
import Derived.ProofKit
import Derived.OpenShut
import Derived.Handy
import Derived.Lib.Hide
import Derived.Lib.SmallJoins
import Derived.Test.YtmajklgjmghjlaaBase
import Derived.Test.YtmajklgjmghjlaaGen
import Derived.Test.YtmajklgjmghjlaaKit
import Derived.Test.YtmajklgjmghjlaaMark
import Derived.Test.YtmajklgjmghjlaaPath1
import Derived.Test.YtmajklgjmghjlaaPath2
import Derived.Test.YtmajklgjmghjlaaSortP
namespace Go.Proofs.Ytmajklgjmghjlaa
open Go.ChangeShapes Go.WideShapes Go.ChangeAt Go.RowKit Go.Joins
set_option linter.unusedVariables false
set_option maxRecDepth 100000
/-- Sorting in place: the row in block b holds L; the blocks of F0 are those of its elements. -/
structure Sb (w0 : World) (b : Nat) (e : TypeId) (N : Nat) (F0 : List Nat) (w : World) (L : List Lo) : Prop where
  touch : Touch [b] w0 w
  blk : Blk w b e N
  blt : b < w0.heap.size
  len : L.length * 2 ≤ N
  row : ∃ F, Row ELoss 2 w b 0 L F ∧ F.Perm F0
  out : b ∉ F0
  low : ∀ f ∈ F0, f < w0.heap.size
variable {w0 : World} {b : Nat} {e : TypeId} {N : Nat} {F0 : List Nat}
theorem Sb.below {w w' : World} {L : List Lo} (h : Sb w0 b e N F0 w L) (hb : Below w.heap.size w w') : Sb w0 b e N F0 w' L := by
  obtain ⟨h1, h2, h3, h4, ⟨F, h5, h6⟩, h7, h8⟩ := h
  have hs := h1.size
  refine ⟨h1.trans (Touch.of_below hb), h2.below hb h2.unf.lt, h3, h4, ⟨F, h5.agree ELoss.loc L (Cells.of_block (hb.block b h2.unf.lt) _ _) (fun f hf => hb.block f ?_), h6⟩, h7, h8⟩
  have := h8 f (h6.mem_iff.1 hf)
  omega
theorem Sb.get {w : World} {L : List Lo} (h : Sb w0 b e N F0 w L) (i : Nat) (hi : i < L.length) :
    ∃ a c, w.cell? ⟨b, i * 2, none⟩ = some (.int .i64 L[i].1) ∧ w.cell? ⟨b, i * 2 + 1, none⟩ = some (.slice a L[i].2.length c) ∧ Rd EStep 2 w w0.heap.size a c L[i].2 := by
  obtain ⟨h1, h2, h3, h4, ⟨F, h5, h6⟩, h7, h8⟩ := h
  obtain ⟨F', ⟨k1, _, a, c, k2, k3⟩, hF⟩ := h5.get i hi
  rw [Nat.zero_add] at k1 k2
  exact ⟨a, c, k1, k2, F', k3, fun f hf => h8 f (h6.mem_iff.1 (hF f hf))⟩
theorem ELoss.move {x : Lo} {w w' : World} {o o' : Nat} {F : List Nat} (h : ELoss w b o x F) (h0 : w'.cell? ⟨b, o', none⟩ = w.cell? ⟨b, o, none⟩) (h1 : w'.cell? ⟨b, o' + 1, none⟩ = w.cell? ⟨b, o + 1, none⟩) (hF : Agree w w' F) : ELoss w' b o' x F := by
  obtain ⟨k1, k2, a, c, k3, k4⟩ := h
  exact ⟨h0.trans k1, k2, a, c, h1.trans k3, k4.agree EStep.loc hF⟩
/-- Two elements change places. -/
theorem Sb.swap {w w' : World} {X M Z : List Lo} {x y : Lo} (h : Sb w0 b e N F0 w (X ++ (x :: (M ++ (y :: Z))))) (ht : Touch [b] w w') (hk : Blk w' b e N)
    (hc : ∀ k, (k < X.length * 2 ∨ X.length * 2 + 2 ≤ k) → (k < (X.length + 1 + M.length) * 2 ∨ (X.length + 1 + M.length) * 2 + 2 ≤ k) → w'.cell? ⟨b, k, none⟩ = w.cell? ⟨b, k, none⟩)
    (hx0 : w'.cell? ⟨b, X.length * 2, none⟩ = w.cell? ⟨b, (X.length + 1 + M.length) * 2, none⟩) (hx1 : w'.cell? ⟨b, X.length * 2 + 1, none⟩ = w.cell? ⟨b, (X.length + 1 + M.length) * 2 + 1, none⟩)
    (hy0 : w'.cell? ⟨b, (X.length + 1 + M.length) * 2, none⟩ = w.cell? ⟨b, X.length * 2, none⟩) (hy1 : w'.cell? ⟨b, (X.length + 1 + M.length) * 2 + 1, none⟩ = w.cell? ⟨b, X.length * 2 + 1, none⟩) :
    Sb w0 b e N F0 w' (X ++ (y :: (M ++ (x :: Z)))) := by
  obtain ⟨h1, h2, h3, h4, ⟨F, h5, h6⟩, h7, h8⟩ := h
  have hs := h1.size
  obtain ⟨F1, F2, rfl, r1, r2⟩ := h5.split
  obtain ⟨Gx, F3, rfl, ex, r3⟩ := r2
  obtain ⟨FM, F4, rfl, rM, r4⟩ := r3.split
  obtain ⟨Gy, FZ, rfl, ey, rZ⟩ := r4
  rw [Nat.zero_add] at ex rM ey rZ
  have eM : X.length * 2 + 2 + M.length * 2 = (X.length + 1 + M.length) * 2 := by omega
  rw [eM] at ey rZ
  have ag : ∀ G : List Nat, (∀ f ∈ G, f ∈ F1 ++ (Gx ++ (FM ++ (Gy ++ FZ)))) → Agree w w' G := by
    intro G hG f hf
    have hm := h6.mem_iff.1 (hG f hf)
    have hlt := h8 f hm
    exact ht.block f (by omega) (fun hb => h7 (by rw [List.mem_singleton] at hb; rwa [← hb]))
  refine ⟨h1.trans ht, hk, h3, by simp only [List.length_append, List.length_cons] at h4 ⊢; omega, ⟨F1 ++ (Gy ++ (FM ++ (Gx ++ FZ))), ?_, ?_⟩, h7, h8⟩
  · refine Row.join (r1.agree ELoss.loc X (fun k _ hk2 => hc k (Or.inl (by omega)) (Or.inl (by omega))) (ag F1 (fun f hf => by simp [hf]))) ?_
    rw [Nat.zero_add]
    refine ⟨Gy, _, rfl, ey.move hx0 hx1 (ag Gy (fun f hf => by simp [hf])), ?_⟩
    refine Row.join (rM.agree ELoss.loc M (fun k hk1 hk2 => hc k (Or.inr (by omega)) (Or.inl (by omega))) (ag FM (fun f hf => by simp [hf]))) ?_
    rw [eM]
    exact ⟨Gx, FZ, rfl, ex.move hy0 hy1 (ag Gx (fun f hf => by simp [hf])), rZ.agree ELoss.loc Z (fun k hk1 hk2 => hc k (Or.inr (by omega)) (Or.inr (by omega))) (ag FZ (fun f hf => by simp [hf]))⟩
  · refine List.Perm.trans ?_ h6
    refine List.perm_iff_count.2 (fun z => ?_)
    simp only [List.count_append]; omega
theorem Touch.st2 (w : World) (o : Nat) (v0 v1 : Value) : Touch [b] w (st2 w b o v0 v1) := (Touch.set w b o v0).trans (Touch.set _ b (o + 1) v1)
/-- The exchange as the program writes it: the hinder place first. -/
theorem Sb.swapB {w : World} {X M Z : List Lo} {x y : Lo} {o1 o2 : Nat} {v0 v1 u0 u1 : Value} (h : Sb w0 b e N F0 w (X ++ (x :: (M ++ (y :: Z))))) (ho1 : o1 = X.length * 2) (ho2 : o2 = (X.length + 1 + M.length) * 2)
    (hv0 : w.cell? ⟨b, o1, none⟩ = some v0) (hv1 : w.cell? ⟨b, o1 + 1, none⟩ = some v1) (hu0 : w.cell? ⟨b, o2, none⟩ = some u0) (hu1 : w.cell? ⟨b, o2 + 1, none⟩ = some u1) :
    Sb w0 b e N F0 (st2 (st2 w b o2 v0 v1) b o1 u0 u1) (X ++ (y :: (M ++ (x :: Z)))) := by
  subst ho1 ho2
  have hN : (X.length + 1 + M.length) * 2 + 2 ≤ N := by have := h.len; simp only [List.length_append, List.length_cons] at this; omega
  have k1 : Blk (st2 w b ((X.length + 1 + M.length) * 2) v0 v1) b e N := st2_blk h.blk
  refine h.swap ((Touch.st2 _ _ _ _).trans (Touch.st2 _ _ _ _)) (st2_blk k1) ?_ ?_ ?_ ?_ ?_
  · intro k hk1 hk2; rw [st2_miss _ hk1, st2_miss _ hk2]
  · rw [st2_hit0 k1 (by omega), hu0]
  · rw [st2_hit1 k1 (by omega), hu1]
  · rw [st2_miss _ (Or.inr (by omega)), st2_hit0 h.blk (by omega), hv0]
  · rw [st2_miss _ (Or.inr (by omega)), st2_hit1 h.blk (by omega), hv1]
/-- The fore place first. -/
theorem Sb.swapF {w : World} {X M Z : List Lo} {x y : Lo} {o1 o2 : Nat} {v0 v1 u0 u1 : Value} (h : Sb w0 b e N F0 w (X ++ (x :: (M ++ (y :: Z))))) (ho1 : o1 = X.length * 2) (ho2 : o2 = (X.length + 1 + M.length) * 2)
    (hv0 : w.cell? ⟨b, o1, none⟩ = some v0) (hv1 : w.cell? ⟨b, o1 + 1, none⟩ = some v1) (hu0 : w.cell? ⟨b, o2, none⟩ = some u0) (hu1 : w.cell? ⟨b, o2 + 1, none⟩ = some u1) :
    Sb w0 b e N F0 (st2 (st2 w b o1 u0 u1) b o2 v0 v1) (X ++ (y :: (M ++ (x :: Z)))) := by
  subst ho1 ho2
  have hN : (X.length + 1 + M.length) * 2 + 2 ≤ N := by have := h.len; simp only [List.length_append, List.length_cons] at this; omega
  have k1 : Blk (st2 w b (X.length * 2) u0 u1) b e N := st2_blk h.blk
  refine h.swap ((Touch.st2 _ _ _ _).trans (Touch.st2 _ _ _ _)) (st2_blk k1) ?_ ?_ ?_ ?_ ?_
  · intro k hk1 hk2; rw [st2_miss _ hk2, st2_miss _ hk1]
  · rw [st2_miss _ (Or.inl (by omega)), st2_hit0 h.blk (by omega), hu0]
  · rw [st2_miss _ (Or.inl (by omega)), st2_hit1 h.blk (by omega), hu1]
  · rw [st2_hit0 k1 (by omega), hv0]
  · rw [st2_hit1 k1 (by omega), hv1]
theorem Sb.at {w : World} {P Q : List Lo} {x : Lo} (h : Sb w0 b e N F0 w (P ++ (x :: Q))) :
    ∃ a c, w.cell? ⟨b, P.length * 2, none⟩ = some (.int .i64 x.1) ∧ w.cell? ⟨b, P.length * 2 + 1, none⟩ = some (.slice a x.2.length c) ∧ Rd EStep 2 w w0.heap.size a c x.2 := by
  have := h.get P.length (by simp)
  simpa using this
theorem Sb.eq {w : World} {L L' : List Lo} (h : Sb w0 b e N F0 w L) (he : L = L') : Sb w0 b e N F0 w L' := he ▸ h
end Go.Proofs.Ytmajklgjmghjlaa
