/- Texts of this proof, merged: SortW, SortR, SortI. No condition beyond what each theorem states. -/
import Derived.Test.YtfbodhfdomdkpaaGreatDoorRows
import Derived.WalkKit
import Derived.ProofKit
import Derived.OpenShut
import Derived.Handy
import Derived.Lib.Hide
import Derived.Lib.SmallJoins
import Derived.Test.YtfbodhfdomdkpaaGreatDoorZG1
import Derived.Test.YtfbodhfdomdkpaaGreatDoorZG2
import Derived.Test.YtfbodhfdomdkpaaGreatDoorZG5
import Derived.Test.YtfbodhfdomdkpaaGreatDoorZG8
import Derived.Deep.RegionHeld3
import Derived.Deep.QuietTactic
import Derived.BigQuiet
import Derived.BigRegion
set_option linter.unusedSimpArgs false
set_option linter.unnecessarySimpa false
namespace Go.Proofs.YtfbodhfdomdkpaaGreatDoor
open Go.ChangeShapes Go.WideShapes Go.ChangeAt Go.RowKit Go.Joins
set_option linter.unusedVariables false
set_option maxRecDepth 100000
/-- Sorting in place: the row in block b holds L; the blocks of F0 are those of its elements. -/
structure Sb (w0 : World) (b : Nat) (e : TypeId) (N : Nat) (F0 : List Nat) (w : World) (L : List Lo) : Prop where
  touch : Touch [b] w0 w
  blk : Blk w b e N
  blt : b < w0.heap.size
  len : L.length * 2 ≤ N
  row : ∃ F, Row ELoss 2 w b 0 L F ∧ F.Perm F0
  out : b ∉ F0
  low : ∀ f ∈ F0, f < w0.heap.size
variable {w0 : World} {b : Nat} {e : TypeId} {N : Nat} {F0 : List Nat}
theorem Sb.below {w w' : World} {L : List Lo} (h : Sb w0 b e N F0 w L) (hb : Below w.heap.size w w') : Sb w0 b e N F0 w' L := by
  obtain ⟨h1, h2, h3, h4, ⟨F, h5, h6⟩, h7, h8⟩ := h
  have hs := h1.size
  refine ⟨h1.trans (Touch.of_below hb), h2.below hb h2.unf.lt, h3, h4, ⟨F, h5.agree ELoss.loc L (Cells.of_block (hb.block b h2.unf.lt) _ _) (fun f hf => hb.block f ?_), h6⟩, h7, h8⟩
  have := h8 f (h6.mem_iff.1 hf)
  omega
theorem Sb.get {w : World} {L : List Lo} (h : Sb w0 b e N F0 w L) (i : Nat) (hi : i < L.length) :
    ∃ a c, w.cell? ⟨b, i * 2, none⟩ = some (.int .i64 L[i].1) ∧ w.cell? ⟨b, i * 2 + 1, none⟩ = some (.slice a L[i].2.length c) ∧ Rd EStep 2 w w0.heap.size a c L[i].2 := by
  obtain ⟨h1, h2, h3, h4, ⟨F, h5, h6⟩, h7, h8⟩ := h
  obtain ⟨F', ⟨k1, _, a, c, k2, k3⟩, hF⟩ := h5.get i hi
  rw [Nat.zero_add] at k1 k2
  exact ⟨a, c, k1, k2, F', k3, fun f hf => h8 f (h6.mem_iff.1 (hF f hf))⟩
theorem ELoss.move {x : Lo} {w w' : World} {o o' : Nat} {F : List Nat} (h : ELoss w b o x F) (h0 : w'.cell? ⟨b, o', none⟩ = w.cell? ⟨b, o, none⟩) (h1 : w'.cell? ⟨b, o' + 1, none⟩ = w.cell? ⟨b, o + 1, none⟩) (hF : Agree w w' F) : ELoss w' b o' x F := by
  obtain ⟨k1, k2, a, c, k3, k4⟩ := h
  exact ⟨h0.trans k1, k2, a, c, h1.trans k3, k4.agree EStep.loc hF⟩
/-- Two elements change places. -/
theorem Sb.swap {w w' : World} {X M Z : List Lo} {x y : Lo} (h : Sb w0 b e N F0 w (X ++ (x :: (M ++ (y :: Z))))) (ht : Touch [b] w w') (hk : Blk w' b e N)
    (hc : ∀ k, (k < X.length * 2 ∨ X.length * 2 + 2 ≤ k) → (k < (X.length + 1 + M.length) * 2 ∨ (X.length + 1 + M.length) * 2 + 2 ≤ k) → w'.cell? ⟨b, k, none⟩ = w.cell? ⟨b, k, none⟩)
    (hx0 : w'.cell? ⟨b, X.length * 2, none⟩ = w.cell? ⟨b, (X.length + 1 + M.length) * 2, none⟩) (hx1 : w'.cell? ⟨b, X.length * 2 + 1, none⟩ = w.cell? ⟨b, (X.length + 1 + M.length) * 2 + 1, none⟩)
    (hy0 : w'.cell? ⟨b, (X.length + 1 + M.length) * 2, none⟩ = w.cell? ⟨b, X.length * 2, none⟩) (hy1 : w'.cell? ⟨b, (X.length + 1 + M.length) * 2 + 1, none⟩ = w.cell? ⟨b, X.length * 2 + 1, none⟩) :
    Sb w0 b e N F0 w' (X ++ (y :: (M ++ (x :: Z)))) := by
  obtain ⟨h1, h2, h3, h4, ⟨F, h5, h6⟩, h7, h8⟩ := h
  have hs := h1.size
  obtain ⟨F1, F2, rfl, r1, r2⟩ := h5.split
  obtain ⟨Gx, F3, rfl, ex, r3⟩ := r2
  obtain ⟨FM, F4, rfl, rM, r4⟩ := r3.split
  obtain ⟨Gy, FZ, rfl, ey, rZ⟩ := r4
  rw [Nat.zero_add] at ex rM ey rZ
  have eM : X.length * 2 + 2 + M.length * 2 = (X.length + 1 + M.length) * 2 := by omega
  rw [eM] at ey rZ
  have ag : ∀ G : List Nat, (∀ f ∈ G, f ∈ F1 ++ (Gx ++ (FM ++ (Gy ++ FZ)))) → Agree w w' G := by
    intro G hG f hf
    have hm := h6.mem_iff.1 (hG f hf)
    have hlt := h8 f hm
    exact ht.block f (by omega) (fun hb => h7 (by rw [List.mem_singleton] at hb; rwa [← hb]))
  refine ⟨h1.trans ht, hk, h3, by simp only [List.length_append, List.length_cons] at h4 ⊢; omega, ⟨F1 ++ (Gy ++ (FM ++ (Gx ++ FZ))), ?_, ?_⟩, h7, h8⟩
  · refine Row.join (r1.agree ELoss.loc X (fun k _ hk2 => hc k (Or.inl (by omega)) (Or.inl (by omega))) (ag F1 (fun f hf => by simp [hf]))) ?_
    rw [Nat.zero_add]
    refine ⟨Gy, _, rfl, ey.move hx0 hx1 (ag Gy (fun f hf => by simp [hf])), ?_⟩
    refine Row.join (rM.agree ELoss.loc M (fun k hk1 hk2 => hc k (Or.inr (by omega)) (Or.inl (by omega))) (ag FM (fun f hf => by simp [hf]))) ?_
    rw [eM]
    exact ⟨Gx, FZ, rfl, ex.move hy0 hy1 (ag Gx (fun f hf => by simp [hf])), rZ.agree ELoss.loc Z (fun k hk1 hk2 => hc k (Or.inr (by omega)) (Or.inr (by omega))) (ag FZ (fun f hf => by simp [hf]))⟩
  · refine List.Perm.trans ?_ h6
    refine List.perm_iff_count.2 (fun z => ?_)
    simp only [List.count_append]; omega
theorem Touch.st2 (w : World) (o : Nat) (v0 v1 : Value) : Touch [b] w (st2 w b o v0 v1) := (Touch.set w b o v0).trans (Touch.set _ b (o + 1) v1)
/-- The exchange as the program writes it: the hinder place first. -/
theorem Sb.swapB {w : World} {X M Z : List Lo} {x y : Lo} {o1 o2 : Nat} {v0 v1 u0 u1 : Value} (h : Sb w0 b e N F0 w (X ++ (x :: (M ++ (y :: Z))))) (ho1 : o1 = X.length * 2) (ho2 : o2 = (X.length + 1 + M.length) * 2)
    (hv0 : w.cell? ⟨b, o1, none⟩ = some v0) (hv1 : w.cell? ⟨b, o1 + 1, none⟩ = some v1) (hu0 : w.cell? ⟨b, o2, none⟩ = some u0) (hu1 : w.cell? ⟨b, o2 + 1, none⟩ = some u1) :
    Sb w0 b e N F0 (st2 (st2 w b o2 v0 v1) b o1 u0 u1) (X ++ (y :: (M ++ (x :: Z)))) := by
  subst ho1 ho2
  have hN : (X.length + 1 + M.length) * 2 + 2 ≤ N := by have := h.len; simp only [List.length_append, List.length_cons] at this; omega
  have k1 : Blk (st2 w b ((X.length + 1 + M.length) * 2) v0 v1) b e N := st2_blk h.blk
  refine h.swap ((Touch.st2 _ _ _ _).trans (Touch.st2 _ _ _ _)) (st2_blk k1) ?_ ?_ ?_ ?_ ?_
  · intro k hk1 hk2; rw [st2_miss _ hk1, st2_miss _ hk2]
  · rw [st2_hit0 k1 (by omega), hu0]
  · rw [st2_hit1 k1 (by omega), hu1]
  · rw [st2_miss _ (Or.inr (by omega)), st2_hit0 h.blk (by omega), hv0]
  · rw [st2_miss _ (Or.inr (by omega)), st2_hit1 h.blk (by omega), hv1]
/-- The fore place first. -/
theorem Sb.swapF {w : World} {X M Z : List Lo} {x y : Lo} {o1 o2 : Nat} {v0 v1 u0 u1 : Value} (h : Sb w0 b e N F0 w (X ++ (x :: (M ++ (y :: Z))))) (ho1 : o1 = X.length * 2) (ho2 : o2 = (X.length + 1 + M.length) * 2)
    (hv0 : w.cell? ⟨b, o1, none⟩ = some v0) (hv1 : w.cell? ⟨b, o1 + 1, none⟩ = some v1) (hu0 : w.cell? ⟨b, o2, none⟩ = some u0) (hu1 : w.cell? ⟨b, o2 + 1, none⟩ = some u1) :
    Sb w0 b e N F0 (st2 (st2 w b o1 u0 u1) b o2 v0 v1) (X ++ (y :: (M ++ (x :: Z)))) := by
  subst ho1 ho2
  have hN : (X.length + 1 + M.length) * 2 + 2 ≤ N := by have := h.len; simp only [List.length_append, List.length_cons] at this; omega
  have k1 : Blk (st2 w b (X.length * 2) u0 u1) b e N := st2_blk h.blk
  refine h.swap ((Touch.st2 _ _ _ _).trans (Touch.st2 _ _ _ _)) (st2_blk k1) ?_ ?_ ?_ ?_ ?_
  · intro k hk1 hk2; rw [st2_miss _ hk2, st2_miss _ hk1]
  · rw [st2_miss _ (Or.inl (by omega)), st2_hit0 h.blk (by omega), hu0]
  · rw [st2_miss _ (Or.inl (by omega)), st2_hit1 h.blk (by omega), hu1]
  · rw [st2_hit0 k1 (by omega), hv0]
  · rw [st2_hit1 k1 (by omega), hv1]
theorem Sb.at {w : World} {P Q : List Lo} {x : Lo} (h : Sb w0 b e N F0 w (P ++ (x :: Q))) :
    ∃ a c, w.cell? ⟨b, P.length * 2, none⟩ = some (.int .i64 x.1) ∧ w.cell? ⟨b, P.length * 2 + 1, none⟩ = some (.slice a x.2.length c) ∧ Rd EStep 2 w w0.heap.size a c x.2 := by
  have := h.get P.length (by simp)
  simpa using this
theorem Sb.eq {w : World} {L L' : List Lo} (h : Sb w0 b e N F0 w L) (he : L = L') : Sb w0 b e N F0 w L' := he ▸ h
end Go.Proofs.YtfbodhfdomdkpaaGreatDoor
namespace Go.Proofs.YtfbodhfdomdkpaaGreatDoor
open Go.ChangeShapes Go.WideShapes Go.ChangeAt Go.RowKit Go.Joins
set_option linter.unusedVariables false
set_option maxRecDepth 100000
variable {w0 : World} {b : Nat} {e : TypeId} {N : Nat} {F0 : List Nat}
set_option maxHeartbeats 4000000 in
theorem swapRange (X U Y V Z : List Lo) (hUV : V.length = U.length) (n cap : Nat) (cmp : Value) (w : World) (hn : n = X.length + U.length + Y.length + V.length + Z.length) (hc : n ≤ cap) (hcap : n ≤ 4611686018427387903)
    (h : Sb w0 b e N F0 w (X ++ (U ++ (Y ++ (V ++ Z))))) :
    Calls Tryz.prog 294 #[.slice (some ⟨b, 0, none⟩) n cap, .int .i64 X.length, .int .i64 ((X.length + U.length + Y.length : Nat) : Int), .int .i64 U.length, cmp] w fun ee w' => ee = .returned (.tuple #[]) ∧ Sb w0 b e N F0 w' (X ++ (V ++ (Y ++ (U ++ Z)))) := by
  go_enter Tryz.func294, Tryz.ntmps294
  go_wp2_with fail
  go_loopw [10] (fun i wr => ∃ j : Nat, j ≤ U.length ∧ i = .int .i64 j ∧ Hid (Sb w0 b e N F0 wr (X ++ (V.take j ++ (U.drop j ++ (Y ++ (U.take j ++ (V.drop j ++ Z)))))))) (fun i _ => U.length - (intOf i).toNat)
  case atStart => exact ⟨0, Nat.zero_le _, rfl, Lib.hid (by simpa using h)⟩
  case round =>
    obtain ⟨j, hj, rfl, hb⟩ := hrel
    by_cases hlt : j < U.length
    · have hlv : j < V.length := by omega
      have hst : Sb w0 b e N F0 wr ((X ++ V.take j) ++ (U[j] :: ((U.drop (j + 1) ++ (Y ++ U.take j)) ++ (V[j] :: (V.drop (j + 1) ++ Z))))) := hb.out.eq (by
        rw [List.drop_eq_getElem_cons hlt, List.drop_eq_getElem_cons hlv]; simp only [List.append_assoc, List.cons_append])
      have lX : (X ++ V.take j).length = X.length + j := by simp; omega
      have lM : (U.drop (j + 1) ++ (Y ++ U.take j)).length = U.length + Y.length - 1 := by simp; omega
      obtain ⟨a1, c1, x0, x1, _⟩ := hst.at
      have hst2 : Sb w0 b e N F0 wr (((X ++ V.take j) ++ (U[j] :: (U.drop (j + 1) ++ (Y ++ U.take j)))) ++ (V[j] :: (V.drop (j + 1) ++ Z))) := hst.eq (by simp only [List.append_assoc, List.cons_append])
      obtain ⟨a2, c2, y0, y1, _⟩ := hst2.at
      have lY : ((X ++ V.take j) ++ (U[j] :: (U.drop (j + 1) ++ (Y ++ U.take j)))).length = X.length + U.length + Y.length + j := by simp; omega
      rw [lX] at x0 x1
      rw [lY] at y0 y1
      have hf := fun i => hst.blk.frozen i
      have HST := Lib.hid hst; clear hst hst2
      go_wp2_with fail
      have HS2 := Lib.hid ((HST.out.swapF (o1 := (X.length + j) * 2) (o2 := (X.length + U.length + Y.length + j) * 2) (by rw [lX]) (by rw [lX, lM]; omega) x0 x1 y0 y1).below (Below.refl _ _).drew)
      go_region
      generalize hG : World.drew _ = w2
      have HS3 : Hid (Sb w0 b e N F0 w2 ((X ++ V.take j) ++ (V[j] :: ((U.drop (j + 1) ++ (Y ++ U.take j)) ++ (U[j] :: (V.drop (j + 1) ++ Z)))))) := by rw [← hG]; exact HS2
      clear HS2 hG hf x0 x1 y0 y1 HST
      go_wp2_with fail
      go_roundw
      case rel => exact ⟨j + 1, by omega, by go_num, Lib.hid (HS3.out.eq (by rw [take_snoc _ j hlt, take_snoc _ j hlv]; simp only [List.append_assoc, List.cons_append, List.nil_append]))⟩
      case measure => simp [intOf]; omega
    · have hjj : j = U.length := by omega
      subst hjj
      have HS3 : Hid (Sb w0 b e N F0 wr (X ++ (V ++ (Y ++ (U ++ Z))))) := Lib.hid (hb.out.eq (by rw [← hUV]; simp; rw [hUV]; simp))
      clear hb
      go_wp2_with fail
      go_end0
      exact ⟨rfl, HS3.out⟩
theorem swapRangeA (X U Y V Z : List Lo) (p q r : Int) (hp : p = X.length) (hq : q = ((X.length + U.length + Y.length : Nat) : Int)) (hr : r = U.length) (hUV : V.length = U.length) (n cap : Nat) (cmp : Value) (w : World) (hn : n = X.length + U.length + Y.length + V.length + Z.length) (hc : n ≤ cap) (hcap : n ≤ 4611686018427387903)
    (h : Sb w0 b e N F0 w (X ++ (U ++ (Y ++ (V ++ Z))))) :
    Calls Tryz.prog 294 #[.slice (some ⟨b, 0, none⟩) n cap, .int .i64 p, .int .i64 q, .int .i64 r, cmp] w fun ee w' => ee = .returned (.tuple #[]) ∧ Sb w0 b e N F0 w' (X ++ (V ++ (Y ++ (U ++ Z)))) := by
  subst hp hq hr
  exact swapRange X U Y V Z hUV n cap cmp w hn hc hcap h
variable {w0 : World} {b : Nat} {e : TypeId} {N : Nat} {F0 : List Nat}
set_option maxHeartbeats 4000000 in
theorem rotate (X U V Z : List Lo) (hU : 0 < U.length) (hV : 0 < V.length) (pa pm pb : Int) (hpa : pa = X.length) (hpm : pm = ((X.length + U.length : Nat) : Int)) (hpb : pb = ((X.length + U.length + V.length : Nat) : Int)) (n cap : Nat) (cmp : Value) (w : World) (hn : n = X.length + U.length + V.length + Z.length) (hc : n ≤ cap) (hcap : n ≤ 4611686018427387903)
    (h : Sb w0 b e N F0 w (X ++ (U ++ (V ++ Z)))) :
    Calls Tryz.prog 261 #[.slice (some ⟨b, 0, none⟩) n cap, .int .i64 pa, .int .i64 pm, .int .i64 pb, cmp] w fun ee w' => ee = .returned (.tuple #[]) ∧ Sb w0 b e N F0 w' (X ++ (V ++ (U ++ Z))) := by
  obtain ⟨m, hm⟩ : ∃ m : Nat, m = X.length + U.length := ⟨_, rfl⟩
  obtain ⟨mb, hmb0⟩ : ∃ mb : Nat, mb = X.length + U.length + V.length := ⟨_, rfl⟩
  rw [← hm] at hpm
  rw [← hmb0] at hpb
  subst hpa hpm hpb
  have hmb2 : mb ≤ n := by omega
  have hmb3 : m ≤ mb := by omega
  have HMB := Lib.hid (show mb = m + V.length from by omega)
  have hmn : m + V.length + Z.length = n := by omega
  have hmb : m ≤ n := by omega
  have hvb : m + V.length ≤ n := by omega
  have hxb : X.length ≤ m := by omega
  have HM := Lib.hid hm
  have HMN := Lib.hid hmn
  have E1 : Hid ((m : Int) - X.length = U.length) := Lib.hid (by omega)
  clear hm hn hmn hmb0
  go_enter Tryz.func261, Tryz.ntmps261
  go_wp2_with fail
  go_loopw [10, 11] (fun i j wr => ∃ (X' U' V' Z' : List Lo), 0 < U'.length ∧ 0 < V'.length ∧ Hid (X'.length + U'.length = m) ∧ i = .int .i64 U'.length ∧ j = .int .i64 V'.length ∧ Hid (Sb w0 b e N F0 wr (X' ++ (U' ++ (V' ++ Z')))) ∧ Hid (X' ++ (V' ++ (U' ++ Z')) = X ++ (V ++ (U ++ Z))) ∧ Hid (m + V'.length + Z'.length = n)) (fun i j _ => (intOf i).toNat + (intOf j).toNat)
  case atStart => exact ⟨X, U, V, Z, hU, hV, Lib.hid HM.out.symm, by have := HM.out; first | rfl | go_num | (congr 1; omega), by have := HMB.out; first | rfl | (congr 1; omega), Lib.hid h, rfl, HMN⟩
  case round =>
    obtain ⟨X', U', V', Z', hU', hV', HM', rfl, rfl, HS, HT, HN'⟩ := hrel
    have hub : U'.length ≤ m := by have := HM'.out; omega
    have hvb' : m + V'.length ≤ n := by have := HN'.out; omega
    by_cases heq : U'.length = V'.length
    · have HEQ := Lib.hid heq
      go_wp2_with fail
      refine (swapRangeA X' U' [] V' Z' _ _ _ ?_ ?_ ?_ HEQ.out.symm n cap cmp _ ?_ hc hcap (HS.out.eq (by simp))).mono ?_
      · have := HM'.out; omega
      · have := HM'.out; simp only [List.length_nil]; omega
      · omega
      · have := HM'.out; have := HN'.out; simp only [List.length_nil]; omega
      · rintro ee w2 ⟨rfl, hs⟩
        have HS2 : Hid (Sb w0 b e N F0 w2 (X ++ (V ++ (U ++ Z)))) := Lib.hid (hs.eq (by rw [← HT.out]; simp))
        clear hs
        go_wp2_with fail
        go_end0
        exact ⟨rfl, HS2.out⟩
    · by_cases hgt : V'.length < U'.length
      · go_wp2_with fail
        obtain ⟨U1, U2, hUU, hU1⟩ : ∃ U1 U2, U' = U1 ++ U2 ∧ U1.length = V'.length := ⟨U'.take V'.length, U'.drop V'.length, (List.take_append_drop ..).symm, by rw [List.length_take]; omega⟩
        have hl : U'.length = U1.length + U2.length := by rw [hUU]; simp
        refine (swapRangeA X' U1 U2 V' Z' _ _ _ ?_ ?_ ?_ hU1.symm n cap cmp _ ?_ hc hcap (HS.out.eq (by rw [hUU]; simp))).mono ?_
        · have := HM'.out; omega
        · have := HM'.out; omega
        · omega
        · have := HM'.out; have := HN'.out; omega
        · rintro ee w2 ⟨rfl, hs⟩
          have HS2 : Hid (Sb w0 b e N F0 w2 ((X' ++ V') ++ (U2 ++ (U1 ++ Z')))) := Lib.hid (hs.eq (by simp))
          have HT2 : Hid ((X' ++ V') ++ (U1 ++ (U2 ++ Z')) = X ++ (V ++ (U ++ Z))) := Lib.hid (by rw [← HT.out, hUU]; simp)
          have HL := Lib.hid hl
          have HU1 := Lib.hid hU1
          clear hs hl hUU hU1
          go_wp2_with fail
          go_roundw
          case rel => exact ⟨X' ++ V', U2, U1, Z', by have := HL.out; have := HU1.out; omega, by have := HU1.out; omega, Lib.hid (by have := HL.out; have := HU1.out; have := HM'.out; rw [List.length_append]; omega), by have := HL.out; have := HU1.out; congr 1; omega, by rw [HU1.out], HS2, HT2, Lib.hid (by have := HN'.out; have := HU1.out; omega)⟩
          case measure => simp [intOf]; omega
      · go_wp2_with fail
        obtain ⟨V1, V2, hVV, hV2⟩ : ∃ V1 V2, V' = V1 ++ V2 ∧ V2.length = U'.length := ⟨V'.take (V'.length - U'.length), V'.drop (V'.length - U'.length), (List.take_append_drop ..).symm, by rw [List.length_drop]; omega⟩
        have hl : V'.length = V1.length + V2.length := by rw [hVV]; simp
        refine (swapRangeA X' U' V1 V2 Z' _ _ _ ?_ ?_ ?_ hV2 n cap cmp _ ?_ hc hcap (HS.out.eq (by rw [hVV]; simp))).mono ?_
        · have := HM'.out; omega
        · have := HM'.out; omega
        · omega
        · have := HM'.out; have := HN'.out; omega
        · rintro ee w2 ⟨rfl, hs⟩
          have HS2 : Hid (Sb w0 b e N F0 w2 (X' ++ (V2 ++ (V1 ++ (U' ++ Z'))))) := Lib.hid (hs.eq (by simp))
          have HT2 : Hid (X' ++ (V1 ++ (V2 ++ (U' ++ Z'))) = X ++ (V ++ (U ++ Z))) := Lib.hid (by rw [← HT.out, hVV]; simp)
          have HL := Lib.hid hl
          have HV2 := Lib.hid hV2
          clear hs hl hVV hV2
          go_wp2_with fail
          go_roundw
          case rel => exact ⟨X', V2, V1, U' ++ Z', by have := HV2.out; omega, by have := HL.out; have := HV2.out; omega, Lib.hid (by have := HL.out; have := HV2.out; have := HM'.out; omega), by rw [HV2.out], by have := HL.out; have := HV2.out; congr 1; omega, HS2, HT2, Lib.hid (by have := HL.out; have := HV2.out; have := HN'.out; rw [List.length_append]; omega)⟩
          case measure => simp [intOf]; omega
end Go.Proofs.YtfbodhfdomdkpaaGreatDoor
namespace Go.Proofs.YtfbodhfdomdkpaaGreatDoor
open Go.ChangeShapes Go.WideShapes Go.ChangeAt Go.RowKit Go.Joins
set_option linter.unusedVariables false
set_option maxRecDepth 100000
variable {w0 : World} {b : Nat} {e : TypeId} {N : Nat} {F0 : List Nat}
set_option maxHeartbeats 4000000 in
theorem insertionSort (A S R : List Lo) (pa pb : Int) (hpa : pa = A.length) (hpb : pb = ((A.length + S.length : Nat) : Int)) (n cap : Nat) (w : World) (hn : n = A.length + S.length + R.length) (hc : n ≤ cap) (hcap : n ≤ 4611686018427387903)
    (h : Sb w0 b e N F0 w (A ++ (S ++ R))) :
    Calls Tryz.prog 201 #[.slice (some ⟨b, 0, none⟩) n cap, .int .i64 pa, .int .i64 pb, .func (.func 74) #[] #[]] w fun ee w' => ee = .returned (.tuple #[]) ∧ ∃ S', S'.Perm S ∧ Sorted S' ∧ Sb w0 b e N F0 w' (A ++ (S' ++ R)) := by
  obtain ⟨q, hq⟩ : ∃ q : Nat, q = A.length + S.length := ⟨_, rfl⟩
  obtain ⟨p, hp⟩ : ∃ p : Nat, p = A.length := ⟨_, rfl⟩
  rw [← hq] at hpb
  rw [← hp] at hpa
  subst hpa hpb
  have hqn : q ≤ n := by omega
  have hpq : p ≤ q := by omega
  have HQ := Lib.hid hq
  have HP := Lib.hid hp
  have HN := Lib.hid hn
  clear hq hp hn
  go_enter Tryz.func201, Tryz.ntmps201
  go_wp2_with fail
  go_loopw [8, 9] (fun i _ wr => ∃ (k : Nat) (S1 rest : List Lo), i = .int .i64 k ∧ p + 1 ≤ k ∧ k ≤ q + 1 ∧ Hid (rest = [] → q ≤ k) ∧ Hid (rest ≠ [] → k = p + S1.length ∧ k < q) ∧ Hid ((S1 ++ rest).Perm S) ∧ Hid (Sorted S1) ∧ Hid (Sb w0 b e N F0 wr (A ++ (S1 ++ (rest ++ R))))) (fun i _ _ => q + 1 - (intOf i).toNat)
  case atStart =>
    have hQ := HQ.out; have hP := HP.out
    cases S with
    | nil => exact ⟨p + 1, [], [], by go_num, by omega, by omega, Lib.hid (fun _ => by simp at hQ; omega), Lib.hid (fun h => absurd rfl h), Lib.hid (List.Perm.refl _), Lib.hid List.Pairwise.nil, Lib.hid (h.eq (by simp))⟩
    | cons s t =>
      simp only [List.length_cons] at hQ
      refine ⟨p + 1, [s], t, by go_num, by omega, by omega, Lib.hid (fun ht => by subst ht; simp at hQ; omega), Lib.hid (fun ht => ⟨by simp, ?_⟩), Lib.hid (List.Perm.refl _), Lib.hid (List.pairwise_singleton _ _), Lib.hid (h.eq (by simp))⟩
      have : 0 < t.length := List.length_pos_iff.2 ht
      omega
  case round =>
    obtain ⟨k, S1, rest, rfl, hk1, hk2, HR1, HR2, HPm, HSo, HS⟩ := hrel
    cases rest with
    | nil =>
      have hkq := HR1.out rfl
      go_wp2_with fail
      go_end0
      exact ⟨rfl, S1, by simpa using HPm.out, HSo.out, HS.out.eq (by simp)⟩
    | cons x rest =>
      obtain ⟨hkS, hkq⟩ := HR2.out (by simp)
      have HKS := Lib.hid hkS; clear hkS HR1 HR2
      have HLEN : Hid (k + 1 + rest.length = q) := Lib.hid (by have h1 := HPm.out.length_eq; have := HKS.out; have := HQ.out; have := HP.out; simp only [List.length_append, List.length_cons] at h1; omega)
      go_wp2_with fail
      go_loopw [9] (fun j wi => ∃ (P Q : List Lo) (jn : Nat), j = .int .i64 jn ∧ jn ≤ k ∧ p ≤ jn ∧ Hid (jn = p + P.length) ∧ Hid (P ++ Q = S1) ∧ Hid (∀ y ∈ Q, lessL x y = true) ∧ Hid (Sb w0 b e N F0 wi (A ++ (P ++ (x :: (Q ++ (rest ++ R))))))) (fun j _ => (intOf j).toNat)
      case atStart => exact ⟨S1, [], k, rfl, by omega, by omega, HKS, Lib.hid (by simp), Lib.hid (by simp), Lib.hid (HS.out.eq (by simp))⟩
      case round =>
        clear HS
        obtain ⟨P, Q, jn, rfl, hj1, hj2, HJ, HPQ, HQx, HS⟩ := hrel
        rcases List.eq_nil_or_concat P with rfl | ⟨P', y, rfl⟩
        · have hjp : jn = p := by have := HJ.out; simpa using this
          subst hjp
          have HSS : Hid (Sorted (x :: S1) ∧ S1 = Q) := Lib.hid ⟨by
            have e := HPQ.out; rw [List.nil_append] at e; subst e
            exact List.pairwise_cons.2 ⟨fun y hy => leL_of_less (HQx.out y hy), HSo.out⟩, by have := HPQ.out; rw [List.nil_append] at this; exact this.symm⟩
          go_wp2_with fail
          go_quiet (fail)
          go_wp2_with fail
          refine ⟨⟨k + 1, x :: S1, rest, by go_num, by omega, by omega, ?_, ?_, Lib.hid ?_, Lib.hid HSS.out.1, Lib.hid ?_⟩, by simp [intOf]; omega⟩
          · exact Lib.hid (fun hr => by subst hr; have := HLEN.out; simp at this; omega)
          · exact Lib.hid (fun hr => ⟨by have := HKS.out; simp only [List.length_cons]; omega, by have := HLEN.out; have := List.length_pos_iff.2 hr; omega⟩)
          · exact (List.perm_middle.symm).trans HPm.out
          · exact (HS.out.below (below_drewN _ _ _)).eq (by rw [HSS.out.2]; simp)
        · rw [List.concat_eq_append] at HPQ HS HJ
          obtain ⟨pj, hpj⟩ : ∃ pj, jn = pj + 1 := ⟨jn - 1, by have := HJ.out; simp at this; omega⟩
          have HJN := Lib.hid hpj
          have HJ2 : Hid (pj = p + P'.length) := Lib.hid (by have := HJ.out; simp at this; omega)
          have hS1 : Sb w0 b e N F0 wr ((A ++ P') ++ (y :: ([] ++ (x :: (Q ++ (rest ++ R)))))) := HS.out.eq (by simp)
          have hS2 : Sb w0 b e N F0 wr (((A ++ P') ++ [y]) ++ (x :: (Q ++ (rest ++ R)))) := HS.out.eq (by simp)
          have lA : (A ++ P').length = pj := by have := HJ2.out; have := HP.out; simp; omega
          obtain ⟨a1, c1, y0, y1, ry⟩ := hS1.at
          obtain ⟨a2, c2, x0, x1, rx⟩ := hS2.at
          rw [List.length_append, lA] at x0 x1
          rw [lA] at y0 y1
          simp only [List.length_singleton] at x0 x1
          rw [← hpj] at x0 x1
          have HRY := Lib.hid ry; have HRX := Lib.hid rx
          have HS1 := Lib.hid hS1
          have hsz := hS1.touch.size
          clear ry rx hS1 hS2 HS
          have hgt : (p : Int) < (jn : Int) := by have := HJ2.out; omega
          have hi1 : (0 : Int) ≤ (jn : Int) := by omega
          have hi2 : (jn : Int) < (n : Int) := by omega
          have hi3 : (0 : Int) ≤ (pj : Int) := by omega
          have hi4 : (pj : Int) < (n : Int) := by omega
          have hwr : IntKind.i64.wrap ((jn : Int) - 1) = (pj : Int) := by rw [show (jn : Int) - 1 = (pj : Int) from by omega]; rw [Go.IntWalk.i64_left]; exact Go.IntWalk.wrap64_in _ ⟨by omega, by omega⟩
          clear hpj
          obtain ⟨cc, hcc⟩ : ∃ c, cmpL x y = c := ⟨_, rfl⟩
          have HCC := Lib.hid hcc; clear hcc
          have lb : b < wr.heap.size := HS1.out.blk.unf.lt
          by_cases hl : cc < 0
          · go_wp2_with fail
            go_region_held3 (fun w' => (∀ b o, b < wr.heap.size → w'.cell? ⟨b, o, none⟩ = wr.cell? ⟨b, o, none⟩) ∧ Below (wr.heap.size) wr w') (first | exact ⟨fun _ _ _ => rfl, (Below.refl _ _).drew⟩ | exact keep_step (by assumption) (Below.drew (Below.refl _ _)) (Nat.le_refl _) | exact keep_step (by assumption) (by assumption) (by first | omega | (simp only [World.size_drew]; omega) | (simp only [size_alloc]; omega) | (simp only [World.size_drew, size_alloc]; omega) | (have := (‹(_ ∧ Below (wr.heap.size) wr _)›).2.size; first | omega | (simp only [World.size_drew]; omega) | (simp only [size_alloc]; omega) | (simp only [World.size_drew, size_alloc]; omega) | (simp only [World.size_drew] at this; omega) | (simp only [size_alloc] at this; omega) | (simp only [World.size_drew, size_alloc] at this; omega))) | exact keep_step (by assumption) (below1 _ _) (by first | omega | (simp only [World.size_drew]; omega) | (simp only [size_alloc]; omega) | (simp only [World.size_drew, size_alloc]; omega) | (have := (‹(_ ∧ Below (wr.heap.size) wr _)›).2.size; first | omega | (simp only [World.size_drew]; omega) | (simp only [size_alloc]; omega) | (simp only [World.size_drew, size_alloc]; omega) | (simp only [World.size_drew] at this; omega) | (simp only [size_alloc] at this; omega) | (simp only [World.size_drew, size_alloc] at this; omega)))) (first | (go_at_call 74; refine (impl_compareLosses x y a2 a1 c2 c1 w0.heap.size _ (HRX.out.below EStep.loc (‹_ ∧ Below (wr.heap.size) wr _›).2 hsz) (HRY.out.below EStep.loc (‹_ ∧ Below (wr.heap.size) wr _›).2 hsz) (by have := (‹_ ∧ Below (wr.heap.size) wr _›).2.size; omega)).mono ?_; rintro ee w3 ⟨rfl, hb⟩; rw [HCC.out]))
            have HB := Lib.hid (‹_ ∧ Below (wr.heap.size) wr _›).2
            rename _ ∧ Below wr.heap.size wr w3 => hHeld
            clear hHeld hb
            have HS3 := Lib.hid (HS1.out.below HB.out)
            have k1 : Sb w0 b e N F0 w3 (((A ++ P') ++ [y]) ++ (x :: (Q ++ (rest ++ R)))) := HS3.out.eq (by simp)
            obtain ⟨a3, c3, u0, u1, _⟩ := HS3.out.at
            obtain ⟨a4, c4, v0, v1, _⟩ := k1.at
            rw [List.length_append, lA] at v0 v1
            rw [lA] at u0 u1
            simp only [List.length_singleton] at v0 v1
            rw [← HJN.out] at v0 v1
            have hf := fun i => k1.blk.frozen i
            have HS4 := Lib.hid ((HS3.out.swapB (o1 := pj * 2) (o2 := jn * 2) (by rw [lA]) (by rw [lA]; have := HJN.out; simp only [List.length_nil]; omega) u0 u1 v0 v1).below (Below.refl _ _).drew)
            clear k1 y0 y1 x0 x1
            go_wp2_with fail
            have hpj : pj < jn := by have := HJN.out; omega
            have n1 : ¬ (jn * 2 = pj * 2) := by omega
            have n2 : ¬ (jn * 2 + 1 = pj * 2) := by omega
            have n3 : ¬ (jn * 2 = pj * 2 + 1) := by omega
            have n4 : ¬ (jn * 2 + 1 = pj * 2 + 1) := by omega
            go_region
            generalize hG : World.drew _ = w5
            have HS5 : Hid (Sb w0 b e N F0 w5 ((A ++ P') ++ (x :: ([] ++ (y :: (Q ++ (rest ++ R))))))) := by rw [← hG]; exact HS4
            clear HS4 hG hf u0 u1 v0 v1
            go_wp2_with fail
            refine ⟨⟨P', y :: Q, pj, by go_num, by have := HJN.out; omega, by have := HJ2.out; omega, HJ2, Lib.hid (by rw [← HPQ.out]; simp), Lib.hid ?_, Lib.hid (HS5.out.eq (by simp))⟩, by simp [intOf]; have := HJN.out; omega⟩
            intro z hz
            rcases List.mem_cons.1 hz with rfl | hz
            · rw [← cmpL_less, HCC.out]; simpa using hl
            · exact HQx.out z hz
          · have hl0 : (decide (cc < 0)) = false := by simpa using hl
            go_wp2_with fail
            go_region_held3 (fun w' => (∀ b o, b < wr.heap.size → w'.cell? ⟨b, o, none⟩ = wr.cell? ⟨b, o, none⟩) ∧ Below (wr.heap.size) wr w') (first | exact ⟨fun _ _ _ => rfl, (Below.refl _ _).drew⟩ | exact keep_step (by assumption) (Below.drew (Below.refl _ _)) (Nat.le_refl _) | exact keep_step (by assumption) (by assumption) (by first | omega | (simp only [World.size_drew]; omega) | (simp only [size_alloc]; omega) | (simp only [World.size_drew, size_alloc]; omega) | (have := (‹(_ ∧ Below (wr.heap.size) wr _)›).2.size; first | omega | (simp only [World.size_drew]; omega) | (simp only [size_alloc]; omega) | (simp only [World.size_drew, size_alloc]; omega) | (simp only [World.size_drew] at this; omega) | (simp only [size_alloc] at this; omega) | (simp only [World.size_drew, size_alloc] at this; omega))) | exact keep_step (by assumption) (below1 _ _) (by first | omega | (simp only [World.size_drew]; omega) | (simp only [size_alloc]; omega) | (simp only [World.size_drew, size_alloc]; omega) | (have := (‹(_ ∧ Below (wr.heap.size) wr _)›).2.size; first | omega | (simp only [World.size_drew]; omega) | (simp only [size_alloc]; omega) | (simp only [World.size_drew, size_alloc]; omega) | (simp only [World.size_drew] at this; omega) | (simp only [size_alloc] at this; omega) | (simp only [World.size_drew, size_alloc] at this; omega)))) (first | (go_at_call 74; refine (impl_compareLosses x y a2 a1 c2 c1 w0.heap.size _ (HRX.out.below EStep.loc (‹_ ∧ Below (wr.heap.size) wr _›).2 hsz) (HRY.out.below EStep.loc (‹_ ∧ Below (wr.heap.size) wr _›).2 hsz) (by have := (‹_ ∧ Below (wr.heap.size) wr _›).2.size; omega)).mono ?_; rintro ee w3 ⟨rfl, hb⟩; rw [HCC.out]))
            have HB := Lib.hid (‹_ ∧ Below (wr.heap.size) wr _›).2
            rename _ ∧ Below wr.heap.size wr w3 => hHeld
            clear hHeld hb
            have HLE : Hid (leL y x) := Lib.hid (by unfold leL; rw [← cmpL_less, HCC.out]; simpa using hl)
            have HSX : Hid (Sorted ((P' ++ [y]) ++ x :: Q)) := Lib.hid (sorted_put (by rw [HPQ.out]; exact HSo.out) (fun z hz => by simp at hz; subst hz; exact HLE.out) (fun z hz => leL_of_less (HQx.out z hz)))
            have HS3 : Hid (Sb w0 b e N F0 w3 (A ++ (((P' ++ [y]) ++ x :: Q) ++ (rest ++ R)))) := Lib.hid ((HS1.out.below HB.out).eq (by simp))
            have HPP : Hid ((((P' ++ [y]) ++ x :: Q) ++ rest).Perm S) := Lib.hid (by
              refine List.Perm.trans ?_ HPm.out
              rw [← HPQ.out]
              refine List.perm_iff_count.2 (fun z => ?_)
              simp only [List.count_append, List.count_cons]; omega)
            clear y0 y1 x0 x1
            go_wp2_with fail
            refine ⟨⟨k + 1, (P' ++ [y]) ++ x :: Q, rest, by go_num, by omega, by omega, ?_, ?_, HPP, HSX, HS3⟩, by simp [intOf]; omega⟩
            · exact Lib.hid (fun hr => by subst hr; have := HLEN.out; simp at this; omega)
            · exact Lib.hid (fun hr => ⟨by have := HKS.out; have h1 := congrArg List.length HPQ.out; simp only [List.length_append, List.length_cons, List.length_nil] at h1 ⊢; omega, by have := HLEN.out; have := List.length_pos_iff.2 hr; omega⟩)
end Go.Proofs.YtfbodhfdomdkpaaGreatDoor
