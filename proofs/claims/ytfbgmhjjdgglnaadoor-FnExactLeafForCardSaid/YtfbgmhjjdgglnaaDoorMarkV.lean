/- Contracts and lemmas for the proofs of this seat: MarkV. No condition beyond those stated. -/
import Derived.Test.YtfbgmhjjdgglnaaDoorRows
import Derived.Deep.AppendLies
import Derived.WalkKit
import Derived.ProofKit
import Derived.OpenShut
import Derived.Handy
import Derived.Lib.Hide
import Derived.Lib.SmallJoins
import Derived.Deep.QuietTactic
import Derived.BigQuiet
import Derived.Laws.BytesArg
import Derived.Deep.RegionHeld3
import Derived.Test.YtfbgmhjjdgglnaaDoorBase
import Derived.Test.YtfbgmhjjdgglnaaDoorGen
import Derived.Test.YtfbgmhjjdgglnaaDoorKit
import Derived.Test.YtfbgmhjjdgglnaaDoorMark
import Derived.Test.YtfbgmhjjdgglnaaDoorApp
namespace Go.Proofs.YtfbgmhjjdgglnaaDoor
open Go.ChangeShapes Go.WideShapes Go.ChangeAt Go.RowKit Go.Joins
set_option linter.unusedVariables false
set_option maxRecDepth 100000
def mdig (k : Nat) (out : ByteArray) : ByteArray := if h : k = 0 then out else mdig (k / 10) (strOfNums [48 + (k : Int) % 10] ++ out)
termination_by k
decreasing_by omega
theorem mdig_zero (out : ByteArray) : mdig 0 out = out := by rw [mdig]; simp
theorem mdig_pos (k : Nat) (h : k ≠ 0) (out : ByteArray) : mdig k out = mdig (k / 10) (strOfNums [48 + (k : Int) % 10] ++ out) := by rw [mdig]; simp [h]
def mtxt (k : Int) : ByteArray := ⟨#[109]⟩ ++ mdig k.toNat ⟨#[]⟩
theorem mdig_size (k : Nat) : ∀ out : ByteArray, (mdig k out).size ≤ out.size + k := by
  induction k using Nat.strongRecOn with
  | ind k ih =>
    intro out
    by_cases h : k = 0
    · subst h; rw [mdig_zero]; omega
    · rw [mdig_pos k h]
      have := ih (k / 10) (by omega) (strOfNums [48 + (k : Int) % 10] ++ out)
      rw [ByteArray.size_append, strOfNums_size] at this
      simp at this
      omega
theorem mtxt_size (k : Int) : (mtxt k).size ≤ 1 + k.toNat := by
  unfold mtxt
  have := mdig_size k.toNat ⟨#[]⟩
  rw [ByteArray.size_append]
  have h1 : (⟨#[109]⟩ : ByteArray).size = 1 := rfl
  have h2 : (⟨#[]⟩ : ByteArray).size = 0 := rfl
  omega
theorem markText_calls (k : Int) (w : World) (h0 : 0 < k) (h1 : k ≤ 1000000000000) :
    Calls Tryd.prog 93 #[.int .i64 k] w fun e w' => e = .returned (.string (mtxt k)) ∧ Below w.heap.size w w' := by
  go_enter Tryd.func93, Tryd.ntmps93
  go_wp2_with fail
  go_loopw [0, 3] (fun q s wr => ∃ (m : Nat) (o : ByteArray), q = .int .i64 m ∧ s = .string o ∧ o.size + m ≤ 1000000000000 ∧ Hid (mdig k.toNat ⟨#[]⟩ = mdig m o) ∧ Below w.heap.size w wr) (fun q _ _ => (intOf q).toNat)
  case atStart => exact ⟨k.toNat, ⟨#[]⟩, by go_num, rfl, by have h2 : (⟨#[]⟩ : ByteArray).size = 0 := rfl; omega, rfl, Below.refl _ _⟩
  case round =>
    obtain ⟨m, o, rfl, rfl, hs, HM, hb⟩ := hrel
    by_cases hm : m = 0
    · subst hm
      go_wp2_with fail
      go_ret
      refine ⟨?_, hb⟩
      have h2 := HM.out
      rw [mdig_zero] at h2
      unfold mtxt
      rw [h2]; rfl
    · have hm0 : 0 < m := by omega
      have hcv := run_convert_bytes_arg (P := Tryd.prog) (wr.alloc (.cells #[.int .u8 (48 + (m : Int) % 10)] 5)) 82 5 Tryd.underlying82 Tryd.underlying5 wr.heap.size 0 1 1 [48 + (m : Int) % 10] rfl (by intro i hi; (obtain rfl : i = 0 := (by omega)); exact (Is.new wr _ _).cell 0 rfl) 9 Tryd.underlying9
      have HM2 := Lib.hid (HM.out.trans (mdig_pos m hm o))
      have hsz : (strOfNums [48 + (m : Int) % 10]).size = 1 := strOfNums_size _
      clear HM
      go_wp2_with fail
      go_roundw
      case rel => exact ⟨m / 10, _, by go_num, rfl, by rw [ByteArray.size_append]; omega, HM2.out, hb.trans ((below1 _ _).mono hb.size)⟩
      case measure => simp [intOf]; omega
theorem T.k_mk (a b c : Int) (s : ByteArray) (l : List T) : (T.mk a b c s l).k = a := rfl
theorem T.n_mk (a b c : Int) (s : ByteArray) (l : List T) : (T.mk a b c s l).n = b := rfl
theorem T.x_mk (a b c : Int) (s : ByteArray) (l : List T) : (T.mk a b c s l).x = c := rfl
theorem T.s_mk (a b c : Int) (s : ByteArray) (l : List T) : (T.mk a b c s l).s = s := rfl
theorem T.l_mk (a b c : Int) (s : ByteArray) (l : List T) : (T.mk a b c s l).l = l := rfl
theorem TR.row {w : World} {b : Nat} : ∀ {l : List T} {o : Nat} {F : List Nat}, TR w b o l F ↔ Row TV 5 w b o l F := by
  intro l
  induction l with
  | nil => intro o F; rw [TR]; exact Iff.rfl
  | cons t r ih =>
    intro o F
    rw [TR]
    constructor
    · rintro ⟨F1, F2, h, h1, h2⟩; exact ⟨F1, F2, h, h1, ih.1 h2⟩
    · rintro ⟨F1, F2, h, h1, h2⟩; exact ⟨F1, F2, h, h1, ih.2 h2⟩
theorem TL.sl {w : World} {a : Option Addr} {cap : Nat} {l : List T} {F : List Nat} : TL w a cap l F ↔ Sl TV 5 w a cap l F := by
  constructor
  · rintro ⟨h1, h2, h3, h4⟩
    refine ⟨h1, h2, h3, fun hne => ?_⟩
    obtain ⟨b, o, F', ha, hF, hr⟩ := h4 hne
    exact ⟨b, o, F', ha, hF, TR.row.1 hr⟩
  · rintro ⟨h1, h2, h3, h4⟩
    refine ⟨h1, h2, h3, fun hne => ?_⟩
    obtain ⟨b, o, F', ha, hF, hr⟩ := h4 hne
    exact ⟨b, o, F', ha, hF, TR.row.2 hr⟩
theorem TV.elem : Elem TV 5 := by
  refine ⟨by omega, ?_, ?_⟩
  · intro x w w' b o b' o' F h hc hF
    rw [← T.eta x, TV.iff] at h ⊢
    obtain ⟨h0, h1, h2, h3, i0, i1, i2, i3, a, cap, h4, hl⟩ := h
    refine ⟨(hc 0 (by omega)).trans h0, (hc 1 (by omega)).trans h1, (hc 2 (by omega)).trans h2, (hc 3 (by omega)).trans h3, i0, i1, i2, i3, a, cap, (hc 4 (by omega)).trans h4, hl.agree hF⟩
  · intro x w b o F h i hi
    rw [← T.eta x, TV.iff] at h
    obtain ⟨h0, h1, h2, h3, i0, i1, i2, i3, a, cap, h4, hl⟩ := h
    rcases (by omega : i = 0 ∨ i = 1 ∨ i = 2 ∨ i = 3 ∨ i = 4) with rfl | rfl | rfl | rfl | rfl
    · exact ⟨_, h0, rfl⟩
    · exact ⟨_, h1, rfl⟩
    · exact ⟨_, h2, rfl⟩
    · exact ⟨_, h3, rfl⟩
    · exact ⟨_, h4, rfl⟩
theorem R.rd {w : World} {B cap : Nat} {a : Option Addr} {l : List T} : R w B a cap l ↔ Rd TV 5 w B a cap l := by
  constructor
  · rintro ⟨F, h, k⟩; exact ⟨F, TL.sl.1 h, k⟩
  · rintro ⟨F, h, k⟩; exact ⟨F, TL.sl.2 h, k⟩
theorem Own.ow {w : World} {lo hi cap : Nat} {a : Option Addr} {l : List T} : Own w lo hi a cap l ↔ Ow TV 5 w lo hi a cap l := by
  constructor
  · rintro ⟨F, h, k⟩; exact ⟨F, TL.sl.1 h, k⟩
  · rintro ⟨F, h, k⟩; exact ⟨F, TL.sl.2 h, k⟩
/-! ### Marks on trees -/
mutual
def meT : T → Int → T | .mk _ _ _ _ l, k => .mk k (k + 1) (k + 1 + 1) (mtxt (k + 1 + 1 + 1)) (meTs l (k + 1 + 1 + 1 + 1))
def meTs : List T → Int → List T
  | [], _ => []
  | t :: r, k => meT t k :: meTs r (k + (4 * t.count : Nat))
end
def costT (t : T) : Nat := 4 * t.count
theorem meTs_eq (l : List T) : ∀ k, meTs l k = mkL meT costT l k := by
  induction l with
  | nil => intro k; simp only [meTs, mkL]
  | cons t r ih => intro k; simp only [meTs, mkL, costT, ih]
theorem meT_eq (t : T) (k : Int) : meT t k = .mk k (k + 1) (k + 1 + 1) (mtxt (k + 1 + 1 + 1)) (mkL meT costT t.l (k + 1 + 1 + 1 + 1)) := by
  cases t with | mk a b c d l => rw [meT, meTs_eq]; rfl
theorem costT_eq (t : T) : costT t = 4 + cL' costT t.l := by
  cases t with | mk a b c d l =>
  simp only [costT, T.count, T.l]
  have : ∀ l : List T, cL' costT l = 4 * T.countL l := by
    intro l; induction l with
    | nil => rfl
    | cons t r ih => simp only [cL', T.countL, ih, costT]; omega
  rw [this]; omega
theorem costTL (l : List T) : cL' costT l = 4 * T.countL l := by
  induction l with
  | nil => rfl
  | cons t r ih => simp only [cL', T.countL, ih, costT]; omega
theorem countL_le_szL (l : List T) : T.countL l ≤ T.szL l := by
  have := T.countL_le_szL (.mk 0 0 0 ⟨#[]⟩ l)
  simp only [T.count, T.sz] at this
  have h : (⟨#[]⟩ : ByteArray).size = 0 := rfl
  omega
theorem costTL_le (l : List T) : cL' costT l ≤ 4 * T.szL l := by rw [costTL]; have := countL_le_szL l; omega
set_option maxHeartbeats 1000000 in
theorem markValS_of (l : List T) (IH : Hid (∀ t ∈ l, ∀ (a : Option Addr) (cap : Nat) (k : Int) (F : List Nat) (w : World), OwF TV 5 w a cap t.l F → 0 ≤ k → k + cL' costT t.l ≤ 900000000000 →
      Calls Tryd.prog 47 #[.slice a t.l.length cap, .int .i64 k] w fun e w' => e = .returned (.int .i64 (k + cL' costT t.l)) ∧ OwF TV 5 w' a cap (mkL meT costT t.l k) F ∧ Touch F w w'))
    (a : Option Addr) (cap : Nat) (k : Int) (F : List Nat) (w : World) (h : OwF TV 5 w a cap l F) (h0 : 0 ≤ k) (h1 : k + cL' costT l ≤ 900000000000) :
    Calls Tryd.prog 47 #[.slice a l.length cap, .int .i64 k] w fun e w' => e = .returned (.int .i64 (k + cL' costT l)) ∧ OwF TV 5 w' a cap (mkL meT costT l k) F ∧ Touch F w w' := by
  obtain ⟨hl1, hl2⟩ := h.len
  go_enter Tryd.func47, Tryd.ntmps47
  go_wp2_with fail
  go_loopw [1, 5] (fun q i wr => ∃ (j : Nat), j ≤ l.length ∧ i = .int .i64 j ∧ q = .int .i64 (k + cL' costT (l.take j)) ∧ OwF TV 5 wr a cap (half meT costT l k j) F ∧ Touch F w wr) (fun _ i _ => l.length - (intOf i).toNat)
  case atStart => exact ⟨0, Nat.zero_le _, rfl, by simp [cL'], h.start k, Touch.refl _ _⟩
  case round =>
    obtain ⟨j, hj, rfl, rfl, ho, ht⟩ := hrel
    by_cases hlt : j < l.length
    · obtain ⟨b, o, G, rfl, hbF, hu, hbG, hG, hGn, hv, hstep⟩ := ho.next TV.elem.loc hlt
      rw [← T.eta l[j], TV.iff] at hv
      obtain ⟨d0, d1, d2, d3, i0, i1, i2, i3, a', cap', d4, hsl⟩ := hv
      have hfz := fun i => hu.frozen i
      have hcs := cL'_take_succ (c := costT) l j hlt
      have hcl := cL'_take_le (c := costT) l (j + 1)
      have hco := costT_eq l[j]
      have hme := meT_eq l[j] (k + cL' costT (l.take j))
      rw [hme] at hstep
      clear hme
      generalize hK : (cL' costT (l.take j)) = K at *
      have hk1 : k + K + 4 + cL' costT l[j].l ≤ 900000000000 := by omega
      have hk0 : 0 ≤ k + K := by omega
      have HS := Lib.hid hstep; clear hstep
      have HSC := Lib.hid hcs; clear hcs
      have HSL := Lib.hid (show Sl TV 5 wr a' cap' l[j].l G from TL.sl.1 hsl); clear hsl
      have HO := Lib.hid ho; clear ho
      go_wp2_with fail
      have hu3 := ((hu.set b (o + j * 5) (.int .i64 (k + K))).set b (o + j * 5 + 1) (.int .i64 (k + K + 1))).set b (o + j * 5 + 2) (.int .i64 (k + K + 1 + 1))
      have hu2 := (hu.set b (o + j * 5) (.int .i64 (k + K))).set b (o + j * 5 + 1) (.int .i64 (k + K + 1))
      have hu1 := (hu.set b (o + j * 5) (.int .i64 (k + K)))
      have ht3 := ((ht.one hbF (o + j * 5) (.int .i64 (k + K))).one hbF (o + j * 5 + 1) (.int .i64 (k + K + 1))).one hbF (o + j * 5 + 2) (.int .i64 (k + K + 1 + 1))
      have tt3 := (((Touch.refl [b] wr).one (b := b) (by simp) (o + j * 5) (.int .i64 (k + K))).one (b := b) (by simp) (o + j * 5 + 1) (.int .i64 (k + K + 1))).one (b := b) (by simp) (o + j * 5 + 2) (.int .i64 (k + K + 1 + 1))
      have e0 : (((wr.setCell ⟨b, o + j * 5, none⟩ (.int .i64 (k + K))).setCell ⟨b, o + j * 5 + 1, none⟩ (.int .i64 (k + K + 1))).setCell ⟨b, o + j * 5 + 2, none⟩ (.int .i64 (k + K + 1 + 1))).cell? ⟨b, o + j * 5, none⟩ = some (.int .i64 (k + K)) := by
        rw [cell_miss _ _ _ _ (by omega), cell_miss _ _ _ _ (by omega)]; exact hit_of hu d0 _
      have e1 : (((wr.setCell ⟨b, o + j * 5, none⟩ (.int .i64 (k + K))).setCell ⟨b, o + j * 5 + 1, none⟩ (.int .i64 (k + K + 1))).setCell ⟨b, o + j * 5 + 2, none⟩ (.int .i64 (k + K + 1 + 1))).cell? ⟨b, o + j * 5 + 1, none⟩ = some (.int .i64 (k + K + 1)) := by
        rw [cell_miss _ _ _ _ (by omega)]; exact hit_of hu1 (by rw [cell_miss _ _ _ _ (by omega)]; exact d1) _
      have e2 : (((wr.setCell ⟨b, o + j * 5, none⟩ (.int .i64 (k + K))).setCell ⟨b, o + j * 5 + 1, none⟩ (.int .i64 (k + K + 1))).setCell ⟨b, o + j * 5 + 2, none⟩ (.int .i64 (k + K + 1 + 1))).cell? ⟨b, o + j * 5 + 2, none⟩ = some (.int .i64 (k + K + 1 + 1)) :=
        hit_of hu2 (by rw [cell_miss _ _ _ _ (by omega), cell_miss _ _ _ _ (by omega)]; exact d2) _
      have eo : ∀ i, (i < o + j * 5 ∨ o + j * 5 + 3 ≤ i) → (((wr.setCell ⟨b, o + j * 5, none⟩ (.int .i64 (k + K))).setCell ⟨b, o + j * 5 + 1, none⟩ (.int .i64 (k + K + 1))).setCell ⟨b, o + j * 5 + 2, none⟩ (.int .i64 (k + K + 1 + 1))).cell? ⟨b, i, none⟩ = wr.cell? ⟨b, i, none⟩ := by
        intro i hi; rw [cell_miss _ _ _ _ (by omega), cell_miss _ _ _ _ (by omega), cell_miss _ _ _ _ (by omega)]
      generalize ((wr.setCell ⟨b, o + j * 5, none⟩ (.int .i64 (k + K))).setCell ⟨b, o + j * 5 + 1, none⟩ (.int .i64 (k + K + 1))).setCell ⟨b, o + j * 5 + 2, none⟩ (.int .i64 (k + K + 1 + 1)) = w3 at *
      clear hu1 hu2
      refine (markText_calls (k + K + 1 + 1 + 1) w3 (by omega) (by omega)).mono ?_
      rintro e w4 ⟨rfl, hb4⟩
      have hu4 := hu3.agree (hb4.block b hu3.lt)
      have g0 := (World.cell?_of_block (w := w3) (a := ⟨b, o + j * 5, none⟩) (hb4.block b hu3.lt)).trans e0
      have g1 := (World.cell?_of_block (w := w3) (a := ⟨b, o + j * 5 + 1, none⟩) (hb4.block b hu3.lt)).trans e1
      have g2 := (World.cell?_of_block (w := w3) (a := ⟨b, o + j * 5 + 2, none⟩) (hb4.block b hu3.lt)).trans e2
      have go : ∀ i, (i < o + j * 5 ∨ o + j * 5 + 3 ≤ i) → w4.cell? ⟨b, i, none⟩ = wr.cell? ⟨b, i, none⟩ := fun i hi => (World.cell?_of_block (w := w3) (a := ⟨b, i, none⟩) (hb4.block b hu3.lt)).trans (eo i hi)
      have g3 := (go _ (Or.inr (Nat.le_refl _))).trans d3
      have g4 := (go (o + j * 5 + 4) (Or.inr (by omega))).trans d4
      have hf4 := fun i => hu4.frozen i
      have ht4 := Lib.hid (ht3.trans (Touch.of_below hb4))
      have tt4 := Lib.hid (tt3.trans (Touch.of_below hb4))
      have GO := Lib.hid go
      clear e0 e1 e2 eo go ht3 tt3 hb4 d0 d1 d2 d3 d4
      go_wp2_with fail
      have hu5 := hu4.set b (o + j * 5 + 3) (.string (mtxt (k + K + 1 + 1 + 1)))
      have f3 := hit_of hu4 g3 (.string (mtxt (k + K + 1 + 1 + 1)))
      have fo : ∀ i, i ≠ o + j * 5 + 3 → (w4.setCell ⟨b, o + j * 5 + 3, none⟩ (.string (mtxt (k + K + 1 + 1 + 1)))).cell? ⟨b, i, none⟩ = w4.cell? ⟨b, i, none⟩ := fun i hi => cell_miss _ _ _ _ (by omega) _
      have ht5 := Lib.hid (ht4.out.one hbF (o + j * 5 + 3) (.string (mtxt (k + K + 1 + 1 + 1))))
      have tt5 := tt4.out.one (b := b) (by simp) (o + j * 5 + 3) (.string (mtxt (k + K + 1 + 1 + 1)))
      generalize w4.setCell ⟨b, o + j * 5 + 3, none⟩ (.string (mtxt (k + K + 1 + 1 + 1))) = w5 at *
      have hin : OwF TV 5 w5 a' cap' l[j].l G := ⟨HSL.out.agree TV.elem.loc (fun f hf => tt5.block f (HO.out.2.2 f (hG f hf)).lt (by simp; rintro rfl; exact hbG hf)), hGn, fun f hf => tt5.unf f (HO.out.2.2 f (hG f hf))⟩
      refine (IH.out l[j] (List.getElem_mem hlt) a' cap' (k + K + 1 + 1 + 1 + 1) G w5 hin (by omega) (by omega)).mono ?_
      rintro e w6 ⟨rfl, ho6, ht6⟩
      have hb6 := ht6.block b hu5.lt hbG
      have hc6 : ∀ i, w6.cell? ⟨b, i, none⟩ = w5.cell? ⟨b, i, none⟩ := fun i => World.cell?_of_block (w := w5) (a := ⟨b, i, none⟩) hb6
      have hs2 := HS.out w6 (by
        rw [TV.iff]
        have hms := mtxt_size (k + K + 1 + 1 + 1)
        refine ⟨?_, ?_, ?_, ?_, by unfold I64; omega, by unfold I64; omega, by unfold I64; omega, by unfold maxLen; omega, a', cap', ?_, TL.sl.2 ho6.1⟩
        · rw [hc6, fo _ (by omega)]; exact g0
        · rw [hc6, fo _ (by omega)]; exact g1
        · rw [hc6, fo _ (by omega)]; exact g2
        · rw [hc6]; exact f3
        · rw [hc6, fo _ (by omega), mkL_length]; exact g4) (fun i hi => by rw [hc6, fo _ (by omega)]; exact GO.out i (by omega)) ((tt5.mono (by simp)).trans (ht6.mono (by intro f hf; simp [hf])))
      have HT6 := Lib.hid (ht5.out.trans (ht6.mono hG))
      have HS2 := Lib.hid hs2
      have hcK : cL' costT (List.take (j + 1) l) = K + costT l[j] := HSC.out
      have HCK := Lib.hid (show (k + K + 1 + 1 + 1 + 1 + (cL' costT l[j].l : Nat) : Int) = k + (cL' costT (List.take (j + 1) l) : Nat) from by rw [hcK, hco]; omega)
      clear hs2 HS fo f3 g0 g1 g2 g3 g4 hb6 hc6 ht6 tt5 ho6 hin hcK
      go_wp2_with fail
      go_roundw
      case rel => exact ⟨j + 1, by omega, by go_num, by rw [← HCK.out], HS2.out, HT6.out⟩
      case measure => simp [intOf]; omega
    · have hjj : l.length = j := by omega
      have HJ := Lib.hid hjj; clear hjj
      go_wp2_with fail
      go_ret
      exact ⟨ret_i (by rw [← HJ.out, List.take_length]), ho.done HJ.out, ht⟩
theorem markValS_calls (l : List T) : ∀ (a : Option Addr) (cap : Nat) (k : Int) (F : List Nat) (w : World), OwF TV 5 w a cap l F → 0 ≤ k → k + cL' costT l ≤ 900000000000 →
      Calls Tryd.prog 47 #[.slice a l.length cap, .int .i64 k] w fun e w' => e = .returned (.int .i64 (k + cL' costT l)) ∧ OwF TV 5 w' a cap (mkL meT costT l k) F ∧ Touch F w w' := by
  have key : ∀ t : T, ∀ (a : Option Addr) (cap : Nat) (k : Int) (F : List Nat) (w : World), OwF TV 5 w a cap t.l F → 0 ≤ k → k + cL' costT t.l ≤ 900000000000 →
      Calls Tryd.prog 47 #[.slice a t.l.length cap, .int .i64 k] w fun e w' => e = .returned (.int .i64 (k + cL' costT t.l)) ∧ OwF TV 5 w' a cap (mkL meT costT t.l k) F ∧ Touch F w w' := by
    intro t
    induction t using T.ind with
    | h k0 n x s l ih => exact fun a cap k F w h h0 h1 => markValS_of l (Lib.hid ih) a cap k F w h h0 h1
  exact fun a cap k F w h h0 h1 => key (.mk 0 0 0 ⟨#[]⟩ l) a cap k F w h h0 h1
theorem markVal_calls (t : T) (a : Option Addr) (cap : Nat) (k : Int) (F : List Nat) (w : World) (h : OwF TV 5 w a cap t.l F) (h0 : 0 ≤ k) (h1 : k + cL' costT t.l ≤ 900000000000) :
    Calls Tryd.prog 20 #[.agg (cV t a cap), .int .i64 k] w fun e w' => e = .returned (.int .i64 (k + cL' costT t.l)) ∧ OwF TV 5 w' a cap (mkL meT costT t.l k) F ∧ Touch F w w' := by
  have H1 := Lib.hid (below1 w (.cells (cV t a cap) 31))
  have HF : OwF TV 5 (w.alloc (.cells (cV t a cap) 31)) a cap t.l F := ⟨h.1.agree TV.elem.loc (fun f hf => H1.out.block f (h.2.2 f hf).lt), h.2.1, fun f hf => (h.2.2 f hf).agree (H1.out.block f (h.2.2 f hf).lt)⟩
  go_enter Tryd.func20, Tryd.ntmps20
  go_wp2_with fail
  refine (markValS_calls t.l a cap k F _ HF h0 h1).mono ?_
  rintro e w2 ⟨rfl, ho, ht⟩
  have HT := Lib.hid ((Touch.of_below H1.out).trans ht)
  have HO := Lib.hid ho
  clear ho ht
  go_wp2_with fail
  go_ret
  exact ⟨rfl, HO.out, HT.out⟩
theorem heldValS_of (l : List T) (IH : Hid (∀ t ∈ l, ∀ (a : Option Addr) (cap : Nat) (k : Int) (B : Nat) (w : World), Rd TV 5 w B a cap (mkL meT costT t.l k) → B ≤ w.heap.size → 0 ≤ k → k + cL' costT t.l ≤ 900000000000 →
      Calls Tryd.prog 48 #[.slice a t.l.length cap, .int .i64 k] w fun e w' => e = .returned (.int .i64 (k + cL' costT t.l)) ∧ Below w.heap.size w w'))
    (a : Option Addr) (cap : Nat) (k : Int) (B : Nat) (w : World) (hr : Rd TV 5 w B a cap (mkL meT costT l k)) (hB : B ≤ w.heap.size) (h0 : 0 ≤ k) (h1 : k + cL' costT l ≤ 900000000000) :
    Calls Tryd.prog 48 #[.slice a l.length cap, .int .i64 k] w fun e w' => e = .returned (.int .i64 (k + cL' costT l)) ∧ Below w.heap.size w w' := by
  obtain ⟨hl1, hl2⟩ := hr.len
  rw [mkL_length] at hl1
  go_enter Tryd.func48, Tryd.ntmps48
  go_wp2_with fail
  go_loopw [1, 5] (fun q i wr => ∃ (j : Nat), j ≤ l.length ∧ i = .int .i64 j ∧ q = .int .i64 (k + cL' costT (l.take j)) ∧ Below w.heap.size w wr) (fun _ i _ => l.length - (intOf i).toNat)
  case atStart => exact ⟨0, Nat.zero_le _, rfl, by simp [cL'], Below.refl _ _⟩
  case round =>
    obtain ⟨j, hj, rfl, rfl, hb⟩ := hrel
    by_cases hlt : j < l.length
    · obtain ⟨b, o, a', cap', rfl, hbl, d0, d1, d2, d3, d4, hwf, hin⟩ := (R.rd.2 (hr.below TV.elem.loc hb hB)).get j (by rw [mkL_length]; exact hlt)
      rw [mkL_get l j k hlt, meT_eq] at d0 d1 d2 d3 d4 hin
      have hcs := cL'_take_succ (c := costT) l j hlt
      have hcl := cL'_take_le (c := costT) l (j + 1)
      have hco := costT_eq l[j]
      generalize hK : (cL' costT (l.take j)) = K at *
      simp only [T.k_mk, T.n_mk, T.x_mk, T.s_mk] at d0 d1 d2 d3
      simp only [T.l_mk, mkL_length] at d4
      have HIN := Lib.hid (show Rd TV 5 wr B a' cap' (mkL meT costT l[j].l (k + K + 1 + 1 + 1 + 1)) from R.rd.1 hin); clear hin
      have hk1 : k + K + 4 + cL' costT l[j].l ≤ 900000000000 := by omega
      have hk0 : 0 ≤ k + K := by omega
      have HCK := Lib.hid (show (k + K + 1 + 1 + 1 + 1 + (cL' costT l[j].l : Nat) : Int) = k + (cL' costT (List.take (j + 1) l) : Nat) from by rw [hcs, hco]; omega)
      clear hcs hco hwf
      have hbs := hb.size
      have hbw : b < wr.heap.size := by omega
      go_wp2_with fail
      go_region_held3 (fun w' => (∀ b o, b < wr.heap.size → w'.cell? ⟨b, o, none⟩ = wr.cell? ⟨b, o, none⟩) ∧ Below (wr.heap.size) wr w') (first | exact ⟨fun _ _ _ => rfl, (Below.refl _ _).drew⟩ | exact keep_step (by assumption) (Below.drew (Below.refl _ _)) (Nat.le_refl _) | exact keep_step (by assumption) (by assumption) (by first | omega | (simp only [World.size_drew]; omega) | (simp only [size_alloc]; omega) | (simp only [World.size_drew, size_alloc]; omega) | (have := (‹(_ ∧ Below (wr.heap.size) wr _)›).2.size; first | omega | (simp only [World.size_drew]; omega) | (simp only [size_alloc]; omega) | (simp only [World.size_drew, size_alloc]; omega) | (simp only [World.size_drew] at this; omega) | (simp only [size_alloc] at this; omega) | (simp only [World.size_drew, size_alloc] at this; omega))) | exact keep_step (by assumption) (below1 _ _) (by first | omega | (simp only [World.size_drew]; omega) | (simp only [size_alloc]; omega) | (simp only [World.size_drew, size_alloc]; omega) | (have := (‹(_ ∧ Below (wr.heap.size) wr _)›).2.size; first | omega | (simp only [World.size_drew]; omega) | (simp only [size_alloc]; omega) | (simp only [World.size_drew, size_alloc]; omega) | (simp only [World.size_drew] at this; omega) | (simp only [size_alloc] at this; omega) | (simp only [World.size_drew, size_alloc] at this; omega)))) (first | (go_at_call 93; refine (markText_calls (k + K + 1 + 1 + 1) _ (by omega) (by omega)).mono ?_; rintro e w4 ⟨rfl, hb3⟩))
      have hb4 : Below wr.heap.size wr w4 := (‹_ ∧ Below (wr.heap.size) wr _›).2
      clear hb3
      have g4 : w4.cell? ⟨b, o + j * 5 + 4, none⟩ = some (.slice a' l[j].l.length cap') := (World.cell?_of_block (w := wr) (a := ⟨b, o + j * 5 + 4, none⟩) (hb4.block b hbw)).trans d4
      have hs4 := hb4.size
      have H4 := Lib.hid hb4; clear hb4
      have hneg : ¬ (k + K + 1 + 1 + 1 + 1 + (cL' costT l[j].l : Nat) < 0) := by omega
      go_wp2_with fail
      refine (IH.out l[j] (List.getElem_mem hlt) a' cap' (k + K + 1 + 1 + 1 + 1) B w4 (HIN.out.below TV.elem.loc H4.out (by omega)) (by omega) (by omega) (by omega)).mono ?_
      rintro e w6 ⟨rfl, hb6⟩
      have H6 := Lib.hid (hb.trans ((H4.out.trans (hb6.mono hs4)).mono hbs)); clear hb6
      go_wp2_with fail
      go_roundw
      case rel => exact ⟨j + 1, by omega, by go_num, by rw [← HCK.out], H6.out⟩
      case measure => simp [intOf]; omega
    · have hjj : l.length = j := by omega
      have HJ := Lib.hid hjj; clear hjj
      go_wp2_with fail
      go_ret
      exact ⟨ret_i (by rw [← HJ.out, List.take_length]), hb⟩
theorem heldValS_calls (l : List T) : ∀ (a : Option Addr) (cap : Nat) (k : Int) (B : Nat) (w : World), Rd TV 5 w B a cap (mkL meT costT l k) → B ≤ w.heap.size → 0 ≤ k → k + cL' costT l ≤ 900000000000 →
      Calls Tryd.prog 48 #[.slice a l.length cap, .int .i64 k] w fun e w' => e = .returned (.int .i64 (k + cL' costT l)) ∧ Below w.heap.size w w' := by
  have key : ∀ t : T, ∀ (a : Option Addr) (cap : Nat) (k : Int) (B : Nat) (w : World), Rd TV 5 w B a cap (mkL meT costT t.l k) → B ≤ w.heap.size → 0 ≤ k → k + cL' costT t.l ≤ 900000000000 →
      Calls Tryd.prog 48 #[.slice a t.l.length cap, .int .i64 k] w fun e w' => e = .returned (.int .i64 (k + cL' costT t.l)) ∧ Below w.heap.size w w' := by
    intro t
    induction t using T.ind with
    | h k0 n x s l ih => exact fun a cap k B w h hB h0 h1 => heldValS_of l (Lib.hid ih) a cap k B w h hB h0 h1
  exact fun a cap k B w h hB h0 h1 => key (.mk 0 0 0 ⟨#[]⟩ l) a cap k B w h hB h0 h1
theorem heldVal_calls (t : T) (v : T) (a : Option Addr) (cap : Nat) (k : Int) (B : Nat) (w : World) (hv : v.l.length = t.l.length) (hr : Rd TV 5 w B a cap (mkL meT costT t.l k)) (hB : B ≤ w.heap.size) (h0 : 0 ≤ k) (h1 : k + cL' costT t.l ≤ 900000000000) :
    Calls Tryd.prog 21 #[.agg (cV v a cap), .int .i64 k] w fun e w' => e = .returned (.int .i64 (k + cL' costT t.l)) ∧ Below w.heap.size w w' := by
  unfold cV
  rw [hv]
  have H1 := Lib.hid (below1 w (.cells #[Value.int IntKind.i64 v.k, Value.int IntKind.i64 v.n, Value.int IntKind.i64 v.x, Value.string v.s, Value.slice a t.l.length cap] 31))
  have hneg : ¬ (k + (cL' costT t.l : Nat) < 0) := by omega
  go_enter Tryd.func21, Tryd.ntmps21
  go_wp2_with fail
  refine (heldValS_calls t.l a cap k B _ (hr.below TV.elem.loc H1.out hB) (by simp; omega) h0 h1).mono ?_
  rintro e w2 ⟨rfl, hb2⟩
  have H2 := Lib.hid hb2; clear hb2
  go_wp2_with fail
  go_ret
  exact ⟨rfl, below_step H1.out H2.out (by simp)⟩
end Go.Proofs.YtfbgmhjjdgglnaaDoor
