/- Contracts and lemmas for the proofs of this seat: PText. No condition beyond those stated. -/
import Derived.Test.YtfbgmhjjdgglnaaDoorRows
import Derived.WalkKit
import Derived.ProofKit
import Derived.OpenShut
import Derived.Handy
import Derived.Lib.Hide
import Derived.Lib.SmallJoins
import Derived.Deep.RegionHeld3
import Derived.Deep.AppendLies
import Derived.Deep.QuietTactic
import Derived.BigQuiet
import Derived.Lib.AppendIntMem
import Derived.Lib.ItoaLen
import Derived.Test.YtfbgmhjjdgglnaaDoorBase
import Derived.Test.YtfbgmhjjdgglnaaDoorGen
import Derived.Test.YtfbgmhjjdgglnaaDoorKit
import Derived.Test.YtfbgmhjjdgglnaaDoorMark
import Derived.Test.YtfbgmhjjdgglnaaDoorApp
import Derived.Test.YtfbgmhjjdgglnaaDoorMarkV
import Derived.Test.YtfbgmhjjdgglnaaDoorLawVal
import Derived.Test.YtfbgmhjjdgglnaaDoorCopy
import Derived.Test.YtfbgmhjjdgglnaaDoorPathAt
import Derived.Test.YtfbgmhjjdgglnaaDoorPathAt2
import Derived.Test.YtfbgmhjjdgglnaaDoorShelf
import Derived.Test.YtfbgmhjjdgglnaaDoorNum
namespace Go.Proofs.YtfbgmhjjdgglnaaDoor
open Go.ChangeShapes Go.WideShapes Go.ChangeAt Go.RowKit Go.Joins
set_option linter.unusedVariables false
set_option maxRecDepth 100000
theorem numT_size {n : Int} (h : I64 n) : (numT n).size ≤ 21 := by
  have := Lib.itoa_length_le n h.1 h.2
  unfold numT
  simpa [ByteArray.size] using this
/-- A map's name, at a step's place. -/
def nmT (t : T) (s : St) : T := t.l.getD (2 * s.1).toNat zT
def nmX (t : T) (s : St) : ByteArray := if (nmT t s).k = 7 then ⟨#[46]⟩ ++ (nmT t s).s else ⟨#[46, 35]⟩ ++ numT s.1
def stepT (t : T) (s : St) : ByteArray :=
  if t.k = 10 then (if s.2 then nmX t s ++ ⟨#[126]⟩ else nmX t s) else if t.k = 11 then ⟨#[33]⟩ else (⟨#[91]⟩ ++ numT s.1) ++ ⟨#[93]⟩
def pathT : T → ByteArray → List St → ByteArray
  | _, o, [] => o
  | t, o, s :: r => if okI t s then pathT (elT t s) (o ++ stepT t s) r else o
theorem pathT_ok {x : T} {o : ByteArray} {p : List St} {j : Nat} (hj : j < p.length) (h : okI x p[j]) : pathT x o (p.drop j) = pathT (elT x p[j]) (o ++ stepT x p[j]) (p.drop (j + 1)) := by
  rw [List.drop_eq_getElem_cons hj, pathT, if_pos h]
theorem pathT_no {x : T} {o : ByteArray} {p : List St} {j : Nat} (hj : j < p.length) (h : ¬ okI x p[j]) : pathT x o (p.drop j) = o := by
  rw [List.drop_eq_getElem_cons hj, pathT, if_neg h]
theorem pathT_end (x : T) (o : ByteArray) (p : List St) : pathT x o (p.drop p.length) = o := by rw [List.drop_length, pathT]
theorem nm_nat {t : T} {s : St} (h : okI t s) (hk : t.k = 10) : ∃ i : Nat, i < t.l.length ∧ 2 * s.1 = i ∧ ∀ hi : i < t.l.length, nmT t s = t.l[i] := by
  have h0 := h.1
  have h2 := h.2.2
  unfold rawI at h2
  rw [if_pos hk] at h2
  have h3 : 2 * s.1 < (t.l.length : Int) := by split at h2 <;> omega
  refine ⟨(2 * s.1).toNat, by omega, by omega, fun hi => ?_⟩
  unfold nmT; rw [List.getD_eq_getElem?_getD, List.getElem?_eq_getElem hi]; rfl
theorem nmX_size {t : T} {s : St} (hi : I64 s.1) : (nmX t s).size ≤ 23 + (nmT t s).s.size := by
  have := numT_size hi
  unfold nmX
  split
  · rw [ByteArray.size_append]; have : (⟨#[46]⟩ : ByteArray).size = 1 := rfl; omega
  · rw [ByteArray.size_append]; have : (⟨#[46, 35]⟩ : ByteArray).size = 2 := rfl; omega
theorem s_le_sz (u : T) : u.s.size + T.szL u.l ≤ T.sz u := by cases u; simp only [T.s, T.l, T.sz]; omega
theorem step_room {t : T} {s : St} (h : okI t s) (hi : I64 s.1) : (stepT t s).size + 24 * T.szL (elT t s).l ≤ 24 * T.szL t.l := by
  obtain ⟨j, hjl, hje, hej⟩ := okI_nat h
  have he := hej hjl
  have h3 := T.sz_get t.l j hjl
  have h4 := s_le_sz t.l[j]
  rw [← he] at h3 h4
  have e33 : (⟨#[33]⟩ : ByteArray).size = 1 := rfl
  have e91 : (⟨#[91]⟩ : ByteArray).size = 1 := rfl
  have e93 : (⟨#[93]⟩ : ByteArray).size = 1 := rfl
  have e126 : (⟨#[126]⟩ : ByteArray).size = 1 := rfl
  have hn := numT_size hi
  by_cases hk : t.k = 10
  · obtain ⟨i, hil, hie, hel⟩ := nm_nat h hk
    have hx := nmX_size (t := t) hi
    have hs : (stepT t s).size ≤ 24 + (nmT t s).s.size := by
      unfold stepT; rw [if_pos hk]; split
      · rw [ByteArray.size_append]; omega
      · omega
    have h5 := s_le_sz t.l[i]
    unfold rawI at hje
    rw [if_pos hk] at hje
    by_cases hq : s.2 = true
    · rw [if_pos hq] at hje
      obtain rfl : i = j := by omega
      rw [hel hil] at hs
      rw [he] at h3 h4 ⊢
      omega
    · rw [if_neg hq] at hje
      obtain rfl : j = i + 1 := by omega
      have h1 := T.szL_take_succ t.l i hil
      have h2 := T.szL_take_succ t.l (i + 1) hjl
      have h6 := T.szL_take_le t.l (i + 1 + 1)
      rw [hel hil] at hs
      rw [he] at h3 h4 ⊢
      omega
  · have hs : (stepT t s).size ≤ 23 := by
      unfold stepT; rw [if_neg hk]; split
      · omega
      · rw [ByteArray.size_append, ByteArray.size_append]; omega
    omega
theorem pathT_size (p : List St) (hp : ∀ s ∈ p, I64 s.1) : ∀ (t : T) (o : ByteArray), (pathT t o p).size ≤ o.size + 24 * T.szL t.l := by
  induction p with
  | nil => intro t o; rw [pathT]; omega
  | cons s r ih =>
    intro t o
    rw [pathT]
    split
    · rename_i h
      have h1 := ih (fun s hs => hp s (by simp [hs])) (elT t s) (o ++ stepT t s)
      have h2 := step_room h (hp s (by simp))
      rw [ByteArray.size_append] at h1
      omega
    · omega
set_option maxHeartbeats 1000000 in
theorem spec_l8Text (t : T) (s : St) (a : Option Addr) (cap B : Nat) (w : World) (hr : R w B a cap t.l) (hi : I64 s.1) (hok : okI t s) (hlc : t.l.length ≤ 1073741824) (hsz : T.szL t.l ≤ 1073741824) (hB : B ≤ w.heap.size) :
    Calls Tryd.prog 69 #[.agg (cV t a cap), .agg #[.int .i64 s.1, .bool s.2]] w fun e w' => e = .returned (.string (stepT t s)) ∧ Below w.heap.size w w' := by
  obtain ⟨hl1, hl2⟩ := hr.len
  have hns := numT_size hi
  have HR := Lib.hid hr; clear hr
  have H2 := Lib.hid (below2 w (.cells (cV t a cap) 31) (.cells #[.int .i64 s.1, .bool s.2] 87))
  by_cases hk : t.k = 10
  · obtain ⟨i, hil, hie, hel⟩ := nm_nat hok hk
    have hx := nmX_size (t := t) hi
    have hnz := s_le_sz t.l[i]
    have hng := T.sz_get t.l i hil
    have HX := Lib.hid (show stepT t s = (if s.2 then nmX t s ++ ⟨#[126]⟩ else nmX t s) from by unfold stepT; rw [if_pos hk])
    have HN := Lib.hid (show nmX t s = (if t.l[i].k = 7 then ⟨#[46]⟩ ++ t.l[i].s else ⟨#[46, 35]⟩ ++ numT s.1) from by unfold nmX; rw [hel hil])
    clear hok hel
    obtain ⟨sa, sq⟩ := s
    go_enter Tryd.func69, Tryd.ntmps69
    go_wp2_with fail
    generalize hW : ((w.alloc (Obj.cells (cV t a cap) 31)).alloc (Obj.cells #[.int .i64 sa, .bool sq] 87)) = W0
    have q1 : Is W0 w.heap.size 31 (cV t a cap) := by subst hW; exact (Is.new _ _ _).alloc _
    have q2 : Is W0 (w.heap.size + 1) 87 #[.int .i64 sa, .bool sq] := by subst hW; exact Is.new2 _ _ _ _
    have H0 := Lib.hid (show Below w.heap.size w W0 from by subst hW; exact below2 _ _ _)
    have hs0 : W0.heap.size = w.heap.size + 2 := by subst hW; simp
    clear hW
    refine (spec_NumText sa W0 hi).mono ?_
    rintro e w2 ⟨rfl, hb2⟩
    have hs2 := hb2.size
    have HB2 := Lib.hid hb2
    have p1 := q1.below hb2 (by omega)
    have p2 := q2.below hb2 (by omega)
    obtain ⟨r0, r1, r2, r3, r4⟩ := p1.cells5
    have s0 := p2.cell 0 rfl
    have s1 := p2.cell 1 rfl
    have l1 : w.heap.size < w2.heap.size := by omega
    have l2 : w.heap.size + 1 < w2.heap.size := by omega
    clear hb2
    obtain ⟨b, o, a2, cap2, ha, hbl, d0, d1, d2, d3, d4, hwf2, hq⟩ := ((HR.out.below H0.out hB).below HB2.out (by omega)).get i hil
    have hlb : b < w2.heap.size := by omega
    subst ha
    have HWF := Lib.hid hwf2; clear hwf2
    clear hq
    have hix : (2 * sa : Int) = (i : Int) := hie
    have hmb : (2 * sa : Int) ≤ 9223372036854775807 := by omega
    have HB := Lib.hid (H0.out.trans (HB2.out.mono (by omega) : Below w.heap.size W0 w2))
    by_cases h7 : t.l[i].k = 7
    · have h7b : (t.l[i].k == 7) = true := by simp [h7]
      cases sq
      · have HF := Lib.hid (show ⟨#[46]⟩ ++ t.l[i].s = stepT t (sa, false) from by rw [HX.out, if_neg (by simp), HN.out, if_pos h7]); clear HX HN h7
        go_wp2_with fail
        go_ret
        exact ⟨ret_s HF.out, HB.out⟩
      · have HF := Lib.hid (show (⟨#[46]⟩ ++ t.l[i].s) ++ ⟨#[126]⟩ = stepT t (sa, true) from by rw [HX.out, if_pos (by simp), HN.out, if_pos h7]); clear HX HN h7
        go_wp2_with fail
        go_ret
        exact ⟨ret_s HF.out, HB.out⟩
    · have h7b : (t.l[i].k == 7) = false := by simp [h7]
      cases sq
      · have HF := Lib.hid (show ⟨#[46, 35]⟩ ++ numT sa = stepT t (sa, false) from by rw [HX.out, if_neg (by simp), HN.out, if_neg h7]); clear HX HN h7
        go_wp2_with fail
        go_ret
        exact ⟨ret_s HF.out, HB.out⟩
      · have HF := Lib.hid (show (⟨#[46, 35]⟩ ++ numT sa) ++ ⟨#[126]⟩ = stepT t (sa, true) from by rw [HX.out, if_pos (by simp), HN.out, if_neg h7]); clear HX HN h7
        go_wp2_with fail
        go_ret
        exact ⟨ret_s HF.out, HB.out⟩
  · by_cases hk2 : t.k = 11
    · have HF := Lib.hid (show (⟨#[33]⟩ : ByteArray) = stepT t s from by unfold stepT; rw [if_neg hk, if_pos hk2])
      have hkb : (t.k == 10) = false := by simp [hk]
      have hkb2 : (t.k == 11) = true := by simp [hk2]
      clear hok hk hk2
      obtain ⟨sa, sq⟩ := s
      go_enter Tryd.func69, Tryd.ntmps69
      go_wp2_with fail
      go_ret
      exact ⟨ret_s HF.out, H2.out⟩
    · have HF := Lib.hid (show (⟨#[91]⟩ ++ numT s.1) ++ ⟨#[93]⟩ = stepT t s from by unfold stepT; rw [if_neg hk, if_neg hk2])
      have hkb : (t.k == 10) = false := by simp [hk]
      have hkb2 : (t.k == 11) = false := by simp [hk2]
      clear hok hk hk2
      obtain ⟨sa, sq⟩ := s
      go_enter Tryd.func69, Tryd.ntmps69
      go_wp2_with fail
      refine (spec_NumText sa _ hi).mono ?_
      rintro e w2 ⟨rfl, hb2⟩
      have HB := Lib.hid (H2.out.trans (hb2.mono (by simp only [size_alloc]; omega) : Below w.heap.size _ w2)); clear hb2
      go_wp2_with fail
      go_ret
      exact ⟨ret_s HF.out, HB.out⟩
set_option maxHeartbeats 1000000 in
theorem impl_stepText (t : T) (s : St) (a : Option Addr) (cap B : Nat) (w : World) (hr : R w B a cap t.l) (hi : I64 s.1) (hok : okI t s) (hlc : t.l.length ≤ 1073741824) (hsz : T.szL t.l ≤ 1073741824) (htab : Lib.TabBelow Tryd.prog B w "internal/strconv.uint64pow10" .u64 Lib.pow10Tab) (hB : B ≤ w.heap.size) :
    Calls Tryd.prog 73 #[.agg (cV t a cap), .agg #[.int .i64 s.1, .bool s.2]] w fun e w' => e = .returned (.string (stepT t s)) ∧ Below w.heap.size w w' := by
  obtain ⟨hl1, hl2⟩ := hr.len
  have hns := numT_size hi
  have HR := Lib.hid hr; clear hr
  have HTAB := Lib.hid htab; clear htab
  have H2 := Lib.hid (below2 w (.cells (cV t a cap) 31) (.cells #[.int .i64 s.1, .bool s.2] 87))
  by_cases hk : t.k = 10
  · obtain ⟨i, hil, hie, hel⟩ := nm_nat hok hk
    have hx := nmX_size (t := t) hi
    have hnz := s_le_sz t.l[i]
    have hng := T.sz_get t.l i hil
    have HX := Lib.hid (show stepT t s = (if s.2 then nmX t s ++ ⟨#[126]⟩ else nmX t s) from by unfold stepT; rw [if_pos hk])
    have HN := Lib.hid (show nmX t s = (if t.l[i].k = 7 then ⟨#[46]⟩ ++ t.l[i].s else ⟨#[46, 35]⟩ ++ numT s.1) from by unfold nmX; rw [hel hil])
    clear hok hel
    obtain ⟨sa, sq⟩ := s
    go_enter Tryd.func73, Tryd.ntmps73
    go_wp2_with fail
    generalize hW : ((w.alloc (Obj.cells (cV t a cap) 31)).alloc (Obj.cells #[.int .i64 sa, .bool sq] 87)) = W0
    have q1 : Is W0 w.heap.size 31 (cV t a cap) := by subst hW; exact (Is.new _ _ _).alloc _
    have q2 : Is W0 (w.heap.size + 1) 87 #[.int .i64 sa, .bool sq] := by subst hW; exact Is.new2 _ _ _ _
    have H0 := Lib.hid (show Below w.heap.size w W0 from by subst hW; exact below2 _ _ _)
    have hs0 : W0.heap.size = w.heap.size + 2 := by subst hW; simp
    clear hW
    refine (impl_NumText sa W0 hi (HTAB.out _ (H0.out.mono hB))).mono ?_
    rintro e w2 ⟨rfl, hb2⟩
    have hs2 := hb2.size
    have HB2 := Lib.hid hb2
    have p1 := q1.below hb2 (by omega)
    have p2 := q2.below hb2 (by omega)
    obtain ⟨r0, r1, r2, r3, r4⟩ := p1.cells5
    have s0 := p2.cell 0 rfl
    have s1 := p2.cell 1 rfl
    have l1 : w.heap.size < w2.heap.size := by omega
    have l2 : w.heap.size + 1 < w2.heap.size := by omega
    clear hb2
    obtain ⟨b, o, a2, cap2, ha, hbl, d0, d1, d2, d3, d4, hwf2, hq⟩ := ((HR.out.below H0.out hB).below HB2.out (by omega)).get i hil
    have hlb : b < w2.heap.size := by omega
    subst ha
    have HWF := Lib.hid hwf2; clear hwf2
    clear hq
    have hix : (2 * sa : Int) = (i : Int) := hie
    have hmb : (2 * sa : Int) ≤ 9223372036854775807 := by omega
    have HB := Lib.hid (H0.out.trans (HB2.out.mono (by omega) : Below w.heap.size W0 w2))
    by_cases h7 : t.l[i].k = 7
    · have h7b : (t.l[i].k == 7) = true := by simp [h7]
      cases sq
      · have HF := Lib.hid (show ⟨#[46]⟩ ++ t.l[i].s = stepT t (sa, false) from by rw [HX.out, if_neg (by simp), HN.out, if_pos h7]); clear HX HN h7
        go_wp2_with fail
        go_ret
        exact ⟨ret_s HF.out, HB.out.trans ((below1 _ _).mono HB.out.size)⟩
      · have HF := Lib.hid (show (⟨#[46]⟩ ++ t.l[i].s) ++ ⟨#[126]⟩ = stepT t (sa, true) from by rw [HX.out, if_pos (by simp), HN.out, if_pos h7]); clear HX HN h7
        go_wp2_with fail
        go_ret
        exact ⟨ret_s HF.out, HB.out.trans ((below1 _ _).mono HB.out.size)⟩
    · have h7b : (t.l[i].k == 7) = false := by simp [h7]
      cases sq
      · have HF := Lib.hid (show ⟨#[46, 35]⟩ ++ numT sa = stepT t (sa, false) from by rw [HX.out, if_neg (by simp), HN.out, if_neg h7]); clear HX HN h7
        go_wp2_with fail
        go_ret
        exact ⟨ret_s HF.out, HB.out.trans ((below1 _ _).mono HB.out.size)⟩
      · have HF := Lib.hid (show (⟨#[46, 35]⟩ ++ numT sa) ++ ⟨#[126]⟩ = stepT t (sa, true) from by rw [HX.out, if_pos (by simp), HN.out, if_neg h7]); clear HX HN h7
        go_wp2_with fail
        go_ret
        exact ⟨ret_s HF.out, HB.out.trans ((below1 _ _).mono HB.out.size)⟩
  · by_cases hk2 : t.k = 11
    · have HF := Lib.hid (show (⟨#[33]⟩ : ByteArray) = stepT t s from by unfold stepT; rw [if_neg hk, if_pos hk2])
      have hkb : (t.k == 10) = false := by simp [hk]
      have hkb2 : (t.k == 11) = true := by simp [hk2]
      clear hok hk hk2
      obtain ⟨sa, sq⟩ := s
      go_enter Tryd.func73, Tryd.ntmps73
      go_wp2_with fail
      go_ret
      exact ⟨ret_s HF.out, H2.out⟩
    · have HF := Lib.hid (show (⟨#[91]⟩ ++ numT s.1) ++ ⟨#[93]⟩ = stepT t s from by unfold stepT; rw [if_neg hk, if_neg hk2])
      have hkb : (t.k == 10) = false := by simp [hk]
      have hkb2 : (t.k == 11) = false := by simp [hk2]
      clear hok hk hk2
      obtain ⟨sa, sq⟩ := s
      go_enter Tryd.func73, Tryd.ntmps73
      go_wp2_with fail
      refine (impl_NumText sa _ hi (HTAB.out _ (H2.out.mono hB))).mono ?_
      rintro e w2 ⟨rfl, hb2⟩
      have HB := Lib.hid (H2.out.trans (hb2.mono (by simp only [size_alloc]; omega) : Below w.heap.size _ w2)); clear hb2
      go_wp2_with fail
      go_ret
      exact ⟨ret_s HF.out, HB.out⟩
end Go.Proofs.YtfbgmhjjdgglnaaDoor
