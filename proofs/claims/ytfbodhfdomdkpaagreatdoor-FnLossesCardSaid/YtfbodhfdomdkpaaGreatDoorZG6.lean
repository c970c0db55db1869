/- Texts of this proof, merged: Num, PText, PText2. No condition beyond what each theorem states. -/
import Derived.Test.YtfbodhfdomdkpaaGreatDoorRows
import Derived.WalkKit
import Derived.ProofKit
import Derived.OpenShut
import Derived.Handy
import Derived.Lib.Hide
import Derived.Lib.SmallJoins
import Derived.Laws.BytesArg
import Derived.Lib.ItoaNum
import Derived.Lib.AppendIntMem
import Derived.Test.YtfbodhfdomdkpaaGreatDoorZG1
import Derived.Test.YtfbodhfdomdkpaaGreatDoorZG2
import Derived.Test.YtfbodhfdomdkpaaGreatDoorShelf
import Derived.Deep.RegionHeld3
import Derived.Deep.AppendLies
import Derived.Deep.QuietTactic
import Derived.BigQuiet
import Derived.Lib.ItoaLen
import Derived.Test.YtfbodhfdomdkpaaGreatDoorZG3
import Derived.Test.YtfbodhfdomdkpaaGreatDoorZG4
set_option linter.unusedSimpArgs false
set_option linter.unnecessarySimpa false
namespace Go.Proofs.YtfbodhfdomdkpaaGreatDoor
open Go.ChangeShapes Go.WideShapes Go.ChangeAt Go.RowKit Go.Joins
set_option linter.unusedVariables false
set_option maxRecDepth 100000
def sdig (k : Nat) (out : ByteArray) : ByteArray := if h : k = 0 then out else sdig (k / 10) (strOfNums [48 + (k : Int) % 10] ++ out)
termination_by k
decreasing_by omega
theorem sdig_zero (out : ByteArray) : sdig 0 out = out := by rw [sdig]; simp
theorem sdig_pos (k : Nat) (h : k ≠ 0) (out : ByteArray) : sdig k out = sdig (k / 10) (strOfNums [48 + (k : Int) % 10] ++ out) := by rw [sdig]; simp [h]
theorem digit_one (k : Nat) (h : k < 10) : strOfNums [48 + (k : Int)] = ⟨#[UInt8.ofNat (48 + k)]⟩ := by
  have h1 : (48 + (k : Int)).toNat = 48 + k := by omega
  unfold strOfNums
  simp only [List.map, h1]
theorem sdig_dec (k : Nat) : ∀ out : ByteArray, k ≠ 0 → sdig k out = ⟨(Lib.decDigits k).toArray⟩ ++ out := by
  induction k using Nat.strongRecOn with
  | ind k ih =>
    intro out h
    rw [sdig_pos k h]
    have hm : (k : Int) % 10 = ((k % 10 : Nat) : Int) := by omega
    rw [hm, digit_one _ (by omega)]
    by_cases h10 : k < 10
    · rw [show k / 10 = 0 from by omega, sdig_zero, Lib.decDigits_one h10, Nat.mod_eq_of_lt h10]
    · rw [ih (k / 10) (by omega) _ (by omega), ← ByteArray.append_assoc]
      have e : Lib.decDigits k = Lib.decDigits (k / 10) ++ [UInt8.ofNat (48 + k % 10)] := by
        conv => lhs; rw [Lib.decDigits, dif_neg h10]
      rw [e]
      congr 1
theorem small_pow {m k : Nat} (h : m * 10 ^ k ≤ 9223372036854775808) (hm : m ≠ 0) : k ≤ 18 := by
  rcases Nat.lt_or_ge 18 k with hk | hk
  · exfalso
    have h1 : 10 ^ 19 ≤ 10 ^ k := Nat.pow_le_pow_right (by omega) hk
    have h2 : 1 * 10 ^ k ≤ m * 10 ^ k := Nat.mul_le_mul_right _ (by omega)
    have h3 : (10 : Nat) ^ 19 = 10000000000000000000 := by decide
    omega
  · exact hk
theorem next_pow {m k : Nat} (h : m * 10 ^ k ≤ 9223372036854775808) : m / 10 * 10 ^ (1 + k) ≤ 9223372036854775808 := by
  rw [Nat.pow_add, ← Nat.mul_assoc]
  have h1 : m / 10 * 10 ^ 1 ≤ m := by omega
  exact Nat.le_trans (Nat.mul_le_mul_right _ h1) h
/-- A number's numeral. -/
def numT (n : Int) : ByteArray := ⟨(Lib.itoa n).toArray⟩
theorem numT_zero : numT 0 = ⟨#[48]⟩ := by unfold numT Lib.itoa; rw [if_neg (by omega), Int.toNat_zero, Lib.decDigits_one (by omega)]; rfl
set_option maxHeartbeats 800000 in
theorem spec_NumText (n : Int) (w : World) (hn : I64 n) :
    Calls Tryz.prog 158 #[.int .i64 n] w fun e w' => e = .returned (.string (numT n)) ∧ Below w.heap.size w w' := by
  obtain ⟨hn0, hn1⟩ := hn
  by_cases hz : n = 0
  · subst hz
    go_enter Tryz.func158, Tryz.ntmps158
    go_wp2
    go_ret
    exact ⟨by rw [numT_zero]; rfl, by go_grown⟩
  · by_cases hp : 0 < n
    · obtain ⟨u, rfl⟩ : ∃ u : Nat, n = u := ⟨n.toNat, by omega⟩
      have hzb : ((u : Int) == 0) = false := by rw [beq_eq_false_iff_ne]; omega
      have HT := Lib.hid (show numT u = sdig u ⟨#[]⟩ from by rw [sdig_dec u _ (by omega)]; unfold numT Lib.itoa; rw [if_neg (by omega)]; simp; apply bytes_inj; simp)
      go_enter Tryz.func158, Tryz.ntmps158
      go_wp2_with fail
      go_loopw [3, 4, 5] (fun s q _ wr => ∃ (m : Nat) (o : ByteArray), q = .int .i64 m ∧ s = .string o ∧ m ≤ 9223372036854775807 ∧ o.size ≤ 19 ∧ Hid (m * 10 ^ o.size ≤ 9223372036854775808) ∧ Hid (sdig u ⟨#[]⟩ = sdig m o) ∧ Below w.heap.size w wr) (fun _ q _ _ => (intOf q).toNat)
      case atStart => exact ⟨u, ⟨#[]⟩, by go_num, rfl, by omega, by have h2 : (⟨#[]⟩ : ByteArray).size = 0 := rfl; omega, by have h2 : (⟨#[]⟩ : ByteArray).size = 0 := rfl; show _ ≤ _; rw [h2]; omega, rfl, Below.refl _ _⟩
      case round =>
        obtain ⟨m, o, rfl, rfl, hm1, hs, HPW, HM, hb⟩ := hrel
        by_cases hm : m = 0
        · subst hm
          go_wp2_with fail
          go_ret
          refine ⟨?_, hb⟩
          have h2 := HM.out
          rw [sdig_zero] at h2
          rw [HT.out, h2]; rfl
        · have hm0 : 0 < m := by omega
          have hmb : ((m : Int) == 0) = false := by rw [beq_eq_false_iff_ne]; omega
          have hcv := run_convert_bytes_arg (P := Tryz.prog) (wr.alloc (.cells #[.int .u8 (48 + (m : Int) % 10)] 5)) 22 5 Tryz.underlying22 Tryz.underlying5 wr.heap.size 0 1 1 [48 + (m : Int) % 10] rfl (by intro i hi; (obtain rfl : i = 0 := (by omega)); exact (Is.new wr _ _).cell 0 rfl) 9 Tryz.underlying9
          have hs18 := small_pow HPW.out hm
          have HPN := Lib.hid (next_pow HPW.out)
          have hd0 : ¬ ((m : Int) % 10 < 0) := by omega
          have HM2 := Lib.hid (HM.out.trans (sdig_pos m hm o))
          have hsz : (strOfNums [48 + (m : Int) % 10]).size = 1 := strOfNums_size _
          clear HM
          go_wp2_with fail
          go_roundw
          case rel => exact ⟨m / 10, _, by go_num, rfl, by omega, by rw [ByteArray.size_append]; omega, by show _ ≤ _; rw [ByteArray.size_append, hsz]; exact HPN.out, HM2.out, hb.trans ((below1 _ _).mono hb.size)⟩
          case measure => simp [intOf]; omega
    · obtain ⟨u, rfl⟩ : ∃ u : Nat, n = -(u : Int) := ⟨n.natAbs, by omega⟩
      have hzb : (-(u : Int) == 0) = false := by rw [beq_eq_false_iff_ne]; omega
      have hlt0 : -(u : Int) < 0 := by omega
      have HT := Lib.hid (show numT (-(u : Int)) = ⟨#[45]⟩ ++ sdig u ⟨#[]⟩ from by rw [sdig_dec u _ (by omega)]; unfold numT Lib.itoa; rw [if_pos (by omega)]; simp; apply bytes_inj; simp)
      go_enter Tryz.func158, Tryz.ntmps158
      go_wp2_with fail
      go_loopw [3, 4, 5] (fun s q _ wr => ∃ (m : Nat) (o : ByteArray), q = .int .i64 (-(m : Int)) ∧ s = .string o ∧ m ≤ 9223372036854775808 ∧ o.size ≤ 20 ∧ Hid (m * 10 ^ o.size ≤ 9223372036854775808) ∧ Hid (sdig u ⟨#[]⟩ = sdig m o) ∧ Below w.heap.size w wr) (fun _ q _ _ => (intOf q).natAbs)
      case atStart => exact ⟨u, ⟨#[]⟩, by go_num, rfl, by omega, by have h2 : (⟨#[]⟩ : ByteArray).size = 0 := rfl; omega, by have h2 : (⟨#[]⟩ : ByteArray).size = 0 := rfl; show _ ≤ _; rw [h2]; omega, rfl, Below.refl _ _⟩
      case round =>
        obtain ⟨m, o, rfl, rfl, hm1, hs, HPW, HM, hb⟩ := hrel
        by_cases hm : m = 0
        · subst hm
          go_wp2_with fail
          go_ret
          refine ⟨?_, hb⟩
          have h2 := HM.out
          rw [sdig_zero] at h2
          rw [HT.out, h2]; rfl
        · have hm0 : 0 < m := by omega
          have hmb : (-(m : Int) == 0) = false := by rw [beq_eq_false_iff_ne]; omega
          have hcv := run_convert_bytes_arg (P := Tryz.prog) (wr.alloc (.cells #[.int .u8 (48 + (m : Int) % 10)] 5)) 22 5 Tryz.underlying22 Tryz.underlying5 wr.heap.size 0 1 1 [48 + (m : Int) % 10] rfl (by intro i hi; (obtain rfl : i = 0 := (by omega)); exact (Is.new wr _ _).cell 0 rfl) 9 Tryz.underlying9
          have hs18 := small_pow HPW.out hm
          have HPN := Lib.hid (next_pow HPW.out)
          have htm : (-(m : Int)).tmod 10 = -((m : Int) % 10) := by rw [Int.neg_tmod, Int.tmod_eq_emod_of_nonneg (by omega)]
          have htd : (-(m : Int)).tdiv 10 = -((m : Int) / 10) := by rw [Int.neg_tdiv, Int.tdiv_eq_ediv_of_nonneg (by omega)]
          have HM2 := Lib.hid (HM.out.trans (sdig_pos m hm o))
          have hsz : (strOfNums [48 + (m : Int) % 10]).size = 1 := strOfNums_size _
          clear HM
          by_cases hd : (m : Int) % 10 = 0
          · have HM3 := Lib.hid (show sdig u ⟨#[]⟩ = sdig (m / 10) (strOfNums [48] ++ o) from by have := HM2.out; rw [hd] at this; exact this)
            have hsz3 : (strOfNums [48]).size = 1 := strOfNums_size _
            have hcv3 := run_convert_bytes_arg (P := Tryz.prog) (wr.alloc (.cells #[.int .u8 48] 5)) 22 5 Tryz.underlying22 Tryz.underlying5 wr.heap.size 0 1 1 [48] rfl (by intro i hi; (obtain rfl : i = 0 := (by omega)); exact (Is.new wr _ _).cell 0 rfl) 9 Tryz.underlying9
            clear hcv hsz HM2
            go_wp2_with fail
            go_roundw
            case rel => exact ⟨m / 10, _, by go_num, rfl, by omega, by rw [ByteArray.size_append]; omega, by show _ ≤ _; rw [ByteArray.size_append, hsz3]; exact HPN.out, HM3.out, hb.trans ((below1 _ _).mono hb.size)⟩
            case measure => simp [intOf]; omega
          · have hd0 : -((m : Int) % 10) < 0 := by omega
            go_wp2_with fail
            go_roundw
            case rel => exact ⟨m / 10, _, by go_num, rfl, by omega, by rw [ByteArray.size_append]; omega, by show _ ≤ _; rw [ByteArray.size_append, hsz]; exact HPN.out, HM2.out, hb.trans ((below1 _ _).mono hb.size)⟩
            case measure => simp [intOf]; omega
theorem impl_NumText (n : Int) (w : World) (hn : I64 n) (htab : Lib.TabIs Tryz.prog w "internal/strconv.uint64pow10" .u64 Lib.pow10Tab) :
    Calls Tryz.prog 206 #[.int .i64 n] w fun e w' => e = .returned (.string (numT n)) ∧ Below w.heap.size w w' := by
  have h := Tryz.strconv_Itoa n hn.1 hn.2 w htab
  go_enter Tryz.func206, Tryz.ntmps206
  go_wp2_with fail
  refine h.mono ?_
  rintro e w2 ⟨rfl, k, os, rfl⟩
  go_wp2_with fail
  go_ret
  exact ⟨rfl, Go.Lib.below_grow _ w (Nat.le_refl _) k os⟩
end Go.Proofs.YtfbodhfdomdkpaaGreatDoor
namespace Go.Proofs.YtfbodhfdomdkpaaGreatDoor
open Go.ChangeShapes Go.WideShapes Go.ChangeAt Go.RowKit Go.Joins
set_option linter.unusedVariables false
set_option maxRecDepth 100000
theorem numT_size {n : Int} (h : I64 n) : (numT n).size ≤ 21 := by
  have := Lib.itoa_length_le n h.1 h.2
  unfold numT
  simpa [ByteArray.size] using this
/-- A map's name, at a step's place. -/
def nmT (t : T) (s : St) : T := t.l.getD (2 * s.1).toNat zT
def nmX (t : T) (s : St) : ByteArray := if (nmT t s).k = 7 then ⟨#[46]⟩ ++ (nmT t s).s else ⟨#[46, 35]⟩ ++ numT s.1
def stepT (t : T) (s : St) : ByteArray :=
  if t.k = 10 then (if s.2 then nmX t s ++ ⟨#[126]⟩ else nmX t s) else if t.k = 11 then ⟨#[33]⟩ else (⟨#[91]⟩ ++ numT s.1) ++ ⟨#[93]⟩
def pathT : T → ByteArray → List St → ByteArray
  | _, o, [] => o
  | t, o, s :: r => if okI t s then pathT (elT t s) (o ++ stepT t s) r else o
theorem pathT_ok {x : T} {o : ByteArray} {p : List St} {j : Nat} (hj : j < p.length) (h : okI x p[j]) : pathT x o (p.drop j) = pathT (elT x p[j]) (o ++ stepT x p[j]) (p.drop (j + 1)) := by
  rw [List.drop_eq_getElem_cons hj, pathT, if_pos h]
theorem pathT_no {x : T} {o : ByteArray} {p : List St} {j : Nat} (hj : j < p.length) (h : ¬ okI x p[j]) : pathT x o (p.drop j) = o := by
  rw [List.drop_eq_getElem_cons hj, pathT, if_neg h]
theorem pathT_end (x : T) (o : ByteArray) (p : List St) : pathT x o (p.drop p.length) = o := by rw [List.drop_length, pathT]
theorem nm_nat {t : T} {s : St} (h : okI t s) (hk : t.k = 10) : ∃ i : Nat, i < t.l.length ∧ 2 * s.1 = i ∧ ∀ hi : i < t.l.length, nmT t s = t.l[i] := by
  have h0 := h.1
  have h2 := h.2.2
  unfold rawI at h2
  rw [if_pos hk] at h2
  have h3 : 2 * s.1 < (t.l.length : Int) := by split at h2 <;> omega
  refine ⟨(2 * s.1).toNat, by omega, by omega, fun hi => ?_⟩
  unfold nmT; rw [List.getD_eq_getElem?_getD, List.getElem?_eq_getElem hi]; rfl
theorem nmX_size {t : T} {s : St} (hi : I64 s.1) : (nmX t s).size ≤ 23 + (nmT t s).s.size := by
  have := numT_size hi
  unfold nmX
  split
  · rw [ByteArray.size_append]; have : (⟨#[46]⟩ : ByteArray).size = 1 := rfl; omega
  · rw [ByteArray.size_append]; have : (⟨#[46, 35]⟩ : ByteArray).size = 2 := rfl; omega
theorem s_le_sz (u : T) : u.s.size + T.szL u.l ≤ T.sz u := by cases u; simp only [T.s, T.l, T.sz]; omega
theorem step_room {t : T} {s : St} (h : okI t s) (hi : I64 s.1) : (stepT t s).size + 24 * T.szL (elT t s).l ≤ 24 * T.szL t.l := by
  obtain ⟨j, hjl, hje, hej⟩ := okI_nat h
  have he := hej hjl
  have h3 := T.sz_get t.l j hjl
  have h4 := s_le_sz t.l[j]
  rw [← he] at h3 h4
  have e33 : (⟨#[33]⟩ : ByteArray).size = 1 := rfl
  have e91 : (⟨#[91]⟩ : ByteArray).size = 1 := rfl
  have e93 : (⟨#[93]⟩ : ByteArray).size = 1 := rfl
  have e126 : (⟨#[126]⟩ : ByteArray).size = 1 := rfl
  have hn := numT_size hi
  by_cases hk : t.k = 10
  · obtain ⟨i, hil, hie, hel⟩ := nm_nat h hk
    have hx := nmX_size (t := t) hi
    have hs : (stepT t s).size ≤ 24 + (nmT t s).s.size := by
      unfold stepT; rw [if_pos hk]; split
      · rw [ByteArray.size_append]; omega
      · omega
    have h5 := s_le_sz t.l[i]
    unfold rawI at hje
    rw [if_pos hk] at hje
    by_cases hq : s.2 = true
    · rw [if_pos hq] at hje
      obtain rfl : i = j := by omega
      rw [hel hil] at hs
      rw [he] at h3 h4 ⊢
      omega
    · rw [if_neg hq] at hje
      obtain rfl : j = i + 1 := by omega
      have h1 := T.szL_take_succ t.l i hil
      have h2 := T.szL_take_succ t.l (i + 1) hjl
      have h6 := T.szL_take_le t.l (i + 1 + 1)
      rw [hel hil] at hs
      rw [he] at h3 h4 ⊢
      omega
  · have hs : (stepT t s).size ≤ 23 := by
      unfold stepT; rw [if_neg hk]; split
      · omega
      · rw [ByteArray.size_append, ByteArray.size_append]; omega
    omega
theorem pathT_size (p : List St) (hp : ∀ s ∈ p, I64 s.1) : ∀ (t : T) (o : ByteArray), (pathT t o p).size ≤ o.size + 24 * T.szL t.l := by
  induction p with
  | nil => intro t o; rw [pathT]; omega
  | cons s r ih =>
    intro t o
    rw [pathT]
    split
    · rename_i h
      have h1 := ih (fun s hs => hp s (by simp [hs])) (elT t s) (o ++ stepT t s)
      have h2 := step_room h (hp s (by simp))
      rw [ByteArray.size_append] at h1
      omega
    · omega
set_option maxHeartbeats 1000000 in
theorem spec_l8Text (t : T) (s : St) (a : Option Addr) (cap B : Nat) (w : World) (hr : R w B a cap t.l) (hi : I64 s.1) (hok : okI t s) (hlc : t.l.length ≤ 1073741824) (hsz : T.szL t.l ≤ 1073741824) (hB : B ≤ w.heap.size) :
    Calls Tryz.prog 146 #[.agg (cV t a cap), .agg #[.int .i64 s.1, .bool s.2]] w fun e w' => e = .returned (.string (stepT t s)) ∧ Below w.heap.size w w' := by
  obtain ⟨hl1, hl2⟩ := hr.len
  have hns := numT_size hi
  have HR := Lib.hid hr; clear hr
  have H2 := Lib.hid (below2 w (.cells (cV t a cap) 36) (.cells #[.int .i64 s.1, .bool s.2] 79))
  by_cases hk : t.k = 10
  · obtain ⟨i, hil, hie, hel⟩ := nm_nat hok hk
    have hx := nmX_size (t := t) hi
    have hnz := s_le_sz t.l[i]
    have hng := T.sz_get t.l i hil
    have HX := Lib.hid (show stepT t s = (if s.2 then nmX t s ++ ⟨#[126]⟩ else nmX t s) from by unfold stepT; rw [if_pos hk])
    have HN := Lib.hid (show nmX t s = (if t.l[i].k = 7 then ⟨#[46]⟩ ++ t.l[i].s else ⟨#[46, 35]⟩ ++ numT s.1) from by unfold nmX; rw [hel hil])
    clear hok hel
    obtain ⟨sa, sq⟩ := s
    go_enter Tryz.func146, Tryz.ntmps146
    go_wp2_with fail
    generalize hW : ((w.alloc (Obj.cells (cV t a cap) 36)).alloc (Obj.cells #[.int .i64 sa, .bool sq] 79)) = W0
    have q1 : Is W0 w.heap.size 36 (cV t a cap) := by subst hW; exact (Is.new _ _ _).alloc _
    have q2 : Is W0 (w.heap.size + 1) 79 #[.int .i64 sa, .bool sq] := by subst hW; exact Is.new2 _ _ _ _
    have H0 := Lib.hid (show Below w.heap.size w W0 from by subst hW; exact below2 _ _ _)
    have hs0 : W0.heap.size = w.heap.size + 2 := by subst hW; simp
    clear hW
    refine (spec_NumText sa W0 hi).mono ?_
    rintro e w2 ⟨rfl, hb2⟩
    have hs2 := hb2.size
    have HB2 := Lib.hid hb2
    have p1 := q1.below hb2 (by omega)
    have p2 := q2.below hb2 (by omega)
    obtain ⟨r0, r1, r2, r3, r4⟩ := p1.cells5
    have s0 := p2.cell 0 rfl
    have s1 := p2.cell 1 rfl
    have l1 : w.heap.size < w2.heap.size := by omega
    have l2 : w.heap.size + 1 < w2.heap.size := by omega
    clear hb2
    obtain ⟨b, o, a2, cap2, ha, hbl, d0, d1, d2, d3, d4, hwf2, hq⟩ := ((HR.out.below H0.out hB).below HB2.out (by omega)).get i hil
    have hlb : b < w2.heap.size := by omega
    subst ha
    have HWF := Lib.hid hwf2; clear hwf2
    clear hq
    have hix : (2 * sa : Int) = (i : Int) := hie
    have hmb : (2 * sa : Int) ≤ 9223372036854775807 := by omega
    have HB := Lib.hid (H0.out.trans (HB2.out.mono (by omega) : Below w.heap.size W0 w2))
    by_cases h7 : t.l[i].k = 7
    · have h7b : (t.l[i].k == 7) = true := by simp [h7]
      cases sq
      · have HF := Lib.hid (show ⟨#[46]⟩ ++ t.l[i].s = stepT t (sa, false) from by rw [HX.out, if_neg (by simp), HN.out, if_pos h7]); clear HX HN h7
        go_wp2_with fail
        go_ret
        exact ⟨ret_s HF.out, HB.out⟩
      · have HF := Lib.hid (show (⟨#[46]⟩ ++ t.l[i].s) ++ ⟨#[126]⟩ = stepT t (sa, true) from by rw [HX.out, if_pos (by simp), HN.out, if_pos h7]); clear HX HN h7
        go_wp2_with fail
        go_ret
        exact ⟨ret_s HF.out, HB.out⟩
    · have h7b : (t.l[i].k == 7) = false := by simp [h7]
      cases sq
      · have HF := Lib.hid (show ⟨#[46, 35]⟩ ++ numT sa = stepT t (sa, false) from by rw [HX.out, if_neg (by simp), HN.out, if_neg h7]); clear HX HN h7
        go_wp2_with fail
        go_ret
        exact ⟨ret_s HF.out, HB.out⟩
      · have HF := Lib.hid (show (⟨#[46, 35]⟩ ++ numT sa) ++ ⟨#[126]⟩ = stepT t (sa, true) from by rw [HX.out, if_pos (by simp), HN.out, if_neg h7]); clear HX HN h7
        go_wp2_with fail
        go_ret
        exact ⟨ret_s HF.out, HB.out⟩
  · by_cases hk2 : t.k = 11
    · have HF := Lib.hid (show (⟨#[33]⟩ : ByteArray) = stepT t s from by unfold stepT; rw [if_neg hk, if_pos hk2])
      have hkb : (t.k == 10) = false := by simp [hk]
      have hkb2 : (t.k == 11) = true := by simp [hk2]
      clear hok hk hk2
      obtain ⟨sa, sq⟩ := s
      go_enter Tryz.func146, Tryz.ntmps146
      go_wp2_with fail
      go_ret
      exact ⟨ret_s HF.out, H2.out⟩
    · have HF := Lib.hid (show (⟨#[91]⟩ ++ numT s.1) ++ ⟨#[93]⟩ = stepT t s from by unfold stepT; rw [if_neg hk, if_neg hk2])
      have hkb : (t.k == 10) = false := by simp [hk]
      have hkb2 : (t.k == 11) = false := by simp [hk2]
      clear hok hk hk2
      obtain ⟨sa, sq⟩ := s
      go_enter Tryz.func146, Tryz.ntmps146
      go_wp2_with fail
      refine (spec_NumText sa _ hi).mono ?_
      rintro e w2 ⟨rfl, hb2⟩
      have HB := Lib.hid (H2.out.trans (hb2.mono (by simp only [size_alloc]; omega) : Below w.heap.size _ w2)); clear hb2
      go_wp2_with fail
      go_ret
      exact ⟨ret_s HF.out, HB.out⟩
set_option maxHeartbeats 1000000 in
theorem impl_stepText (t : T) (s : St) (a : Option Addr) (cap B : Nat) (w : World) (hr : R w B a cap t.l) (hi : I64 s.1) (hok : okI t s) (hlc : t.l.length ≤ 1073741824) (hsz : T.szL t.l ≤ 1073741824) (htab : Lib.TabBelow Tryz.prog B w "internal/strconv.uint64pow10" .u64 Lib.pow10Tab) (hB : B ≤ w.heap.size) :
    Calls Tryz.prog 142 #[.agg (cV t a cap), .agg #[.int .i64 s.1, .bool s.2]] w fun e w' => e = .returned (.string (stepT t s)) ∧ Below w.heap.size w w' := by
  obtain ⟨hl1, hl2⟩ := hr.len
  have hns := numT_size hi
  have HR := Lib.hid hr; clear hr
  have HTAB := Lib.hid htab; clear htab
  have H2 := Lib.hid (below2 w (.cells (cV t a cap) 36) (.cells #[.int .i64 s.1, .bool s.2] 79))
  by_cases hk : t.k = 10
  · obtain ⟨i, hil, hie, hel⟩ := nm_nat hok hk
    have hx := nmX_size (t := t) hi
    have hnz := s_le_sz t.l[i]
    have hng := T.sz_get t.l i hil
    have HX := Lib.hid (show stepT t s = (if s.2 then nmX t s ++ ⟨#[126]⟩ else nmX t s) from by unfold stepT; rw [if_pos hk])
    have HN := Lib.hid (show nmX t s = (if t.l[i].k = 7 then ⟨#[46]⟩ ++ t.l[i].s else ⟨#[46, 35]⟩ ++ numT s.1) from by unfold nmX; rw [hel hil])
    clear hok hel
    obtain ⟨sa, sq⟩ := s
    go_enter Tryz.func142, Tryz.ntmps142
    go_wp2_with fail
    generalize hW : ((w.alloc (Obj.cells (cV t a cap) 36)).alloc (Obj.cells #[.int .i64 sa, .bool sq] 79)) = W0
    have q1 : Is W0 w.heap.size 36 (cV t a cap) := by subst hW; exact (Is.new _ _ _).alloc _
    have q2 : Is W0 (w.heap.size + 1) 79 #[.int .i64 sa, .bool sq] := by subst hW; exact Is.new2 _ _ _ _
    have H0 := Lib.hid (show Below w.heap.size w W0 from by subst hW; exact below2 _ _ _)
    have hs0 : W0.heap.size = w.heap.size + 2 := by subst hW; simp
    clear hW
    refine (impl_NumText sa W0 hi (HTAB.out _ (H0.out.mono hB))).mono ?_
    rintro e w2 ⟨rfl, hb2⟩
    have hs2 := hb2.size
    have HB2 := Lib.hid hb2
    have p1 := q1.below hb2 (by omega)
    have p2 := q2.below hb2 (by omega)
    obtain ⟨r0, r1, r2, r3, r4⟩ := p1.cells5
    have s0 := p2.cell 0 rfl
    have s1 := p2.cell 1 rfl
    have l1 : w.heap.size < w2.heap.size := by omega
    have l2 : w.heap.size + 1 < w2.heap.size := by omega
    clear hb2
    obtain ⟨b, o, a2, cap2, ha, hbl, d0, d1, d2, d3, d4, hwf2, hq⟩ := ((HR.out.below H0.out hB).below HB2.out (by omega)).get i hil
    have hlb : b < w2.heap.size := by omega
    subst ha
    have HWF := Lib.hid hwf2; clear hwf2
    clear hq
    have hix : (2 * sa : Int) = (i : Int) := hie
    have hmb : (2 * sa : Int) ≤ 9223372036854775807 := by omega
    have HB := Lib.hid (H0.out.trans (HB2.out.mono (by omega) : Below w.heap.size W0 w2))
    by_cases h7 : t.l[i].k = 7
    · have h7b : (t.l[i].k == 7) = true := by simp [h7]
      cases sq
      · have HF := Lib.hid (show ⟨#[46]⟩ ++ t.l[i].s = stepT t (sa, false) from by rw [HX.out, if_neg (by simp), HN.out, if_pos h7]); clear HX HN h7
        go_wp2_with fail
        go_ret
        exact ⟨ret_s HF.out, HB.out.trans ((below1 _ _).mono HB.out.size)⟩
      · have HF := Lib.hid (show (⟨#[46]⟩ ++ t.l[i].s) ++ ⟨#[126]⟩ = stepT t (sa, true) from by rw [HX.out, if_pos (by simp), HN.out, if_pos h7]); clear HX HN h7
        go_wp2_with fail
        go_ret
        exact ⟨ret_s HF.out, HB.out.trans ((below1 _ _).mono HB.out.size)⟩
    · have h7b : (t.l[i].k == 7) = false := by simp [h7]
      cases sq
      · have HF := Lib.hid (show ⟨#[46, 35]⟩ ++ numT sa = stepT t (sa, false) from by rw [HX.out, if_neg (by simp), HN.out, if_neg h7]); clear HX HN h7
        go_wp2_with fail
        go_ret
        exact ⟨ret_s HF.out, HB.out.trans ((below1 _ _).mono HB.out.size)⟩
      · have HF := Lib.hid (show (⟨#[46, 35]⟩ ++ numT sa) ++ ⟨#[126]⟩ = stepT t (sa, true) from by rw [HX.out, if_pos (by simp), HN.out, if_neg h7]); clear HX HN h7
        go_wp2_with fail
        go_ret
        exact ⟨ret_s HF.out, HB.out.trans ((below1 _ _).mono HB.out.size)⟩
  · by_cases hk2 : t.k = 11
    · have HF := Lib.hid (show (⟨#[33]⟩ : ByteArray) = stepT t s from by unfold stepT; rw [if_neg hk, if_pos hk2])
      have hkb : (t.k == 10) = false := by simp [hk]
      have hkb2 : (t.k == 11) = true := by simp [hk2]
      clear hok hk hk2
      obtain ⟨sa, sq⟩ := s
      go_enter Tryz.func142, Tryz.ntmps142
      go_wp2_with fail
      go_ret
      exact ⟨ret_s HF.out, H2.out⟩
    · have HF := Lib.hid (show (⟨#[91]⟩ ++ numT s.1) ++ ⟨#[93]⟩ = stepT t s from by unfold stepT; rw [if_neg hk, if_neg hk2])
      have hkb : (t.k == 10) = false := by simp [hk]
      have hkb2 : (t.k == 11) = false := by simp [hk2]
      clear hok hk hk2
      obtain ⟨sa, sq⟩ := s
      go_enter Tryz.func142, Tryz.ntmps142
      go_wp2_with fail
      refine (impl_NumText sa _ hi (HTAB.out _ (H2.out.mono hB))).mono ?_
      rintro e w2 ⟨rfl, hb2⟩
      have HB := Lib.hid (H2.out.trans (hb2.mono (by simp only [size_alloc]; omega) : Below w.heap.size _ w2)); clear hb2
      go_wp2_with fail
      go_ret
      exact ⟨ret_s HF.out, HB.out⟩
end Go.Proofs.YtfbodhfdomdkpaaGreatDoor
namespace Go.Proofs.YtfbodhfdomdkpaaGreatDoor
open Go.ChangeShapes Go.WideShapes Go.ChangeAt Go.RowKit Go.Joins
set_option linter.unusedVariables false
set_option maxRecDepth 100000
theorem elT_szL {x : T} {s : St} (h : okI x s) : T.szL (elT x s).l ≤ T.szL x.l := by
  obtain ⟨i, hil, _, hel⟩ := okI_nat h
  rw [hel hil]
  have := T.sz_get x.l i hil
  have := s_le_sz x.l[i]
  omega
set_option maxHeartbeats 1000000 in
theorem impl_PathText (t : T) (p : List St) (a a' : Option Addr) (cap cap' B : Nat) (w : World) (hr : R w B a cap t.l) (hr' : Rd EStep 2 w B a' cap' p) (hct : T.count t ≤ 1073741824) (hsz : T.szL t.l ≤ 1073741824) (htab : Lib.TabBelow Tryz.prog B w "internal/strconv.uint64pow10" .u64 Lib.pow10Tab) (hB : B ≤ w.heap.size) :
    Calls Tryz.prog 89 #[.agg (cV t a cap), .slice a' p.length cap'] w fun e w' => e = .returned (.string (pathT t ⟨#[36]⟩ p)) ∧ Below w.heap.size w w' := by
  obtain ⟨hl1, hl2⟩ := hr.len
  obtain ⟨hm1, hm2⟩ := hr'.len
  have HR := Lib.hid hr; clear hr
  have HR' := Lib.hid hr'; clear hr'
  have HTAB := Lib.hid htab; clear htab
  have HCT := Lib.hid hct; clear hct
  go_enter Tryz.func89, Tryz.ntmps89
  go_wp2_with fail
  generalize hW : w.alloc (Obj.cells (cV t a cap) 36) = W0
  have q1 : Is W0 w.heap.size 36 (cV t a cap) := by subst hW; exact Is.new _ _ _
  have H0 := Lib.hid (show Below w.heap.size w W0 from by subst hW; exact below1 _ _)
  have hs0 : W0.heap.size = w.heap.size + 1 := by subst hW; simp
  clear hW
  have hz36 : (⟨#[36]⟩ : ByteArray).size = 1 := rfl
  go_loopw [11, 5, 7, 8] (fun i s _ _ wr => ∃ (j : Nat) (x : T) (ax : Option Addr) (cx : Nat) (o : ByteArray), j ≤ p.length ∧ i = .int .i64 j ∧ s = .string o ∧ Is wr w.heap.size 36 (cV x ax cx) ∧ R wr B ax cx x.l ∧ T.count x ≤ 1073741824 ∧ o.size + 24 * T.szL x.l ≤ 1 + 24 * T.szL t.l ∧ Hid (pathT t ⟨#[36]⟩ p = pathT x o (p.drop j)) ∧ Below w.heap.size w wr ∧ w.heap.size + 1 ≤ wr.heap.size) (fun i _ _ _ _ => p.length - (intOf i).toNat)
  case atStart => exact ⟨0, t, a, cap, _, Nat.zero_le _, rfl, rfl, q1, HR.out.below H0.out hB, HCT.out, by omega, rfl, H0.out, by omega⟩
  case round =>
    obtain ⟨j, x, ax, cx, o, hj, rfl, rfl, hbox, hrd, hcx, hos, HP, hb, hws⟩ := hrel
    have hbs := hb.size
    have hfb := fun i => hbox.frozen i
    obtain ⟨x0, x1, x2, x3, x4⟩ := hbox.cells5
    have l2 : w.heap.size < wr.heap.size := by omega
    by_cases hlt : j < p.length
    · obtain ⟨b, o2, ha, hbl, d0, d1, hi⟩ := (HR'.out.below EStep.loc hb hB).step j hlt
      subst ha
      have hlb : b < wr.heap.size := by omega
      have hlx : x.l.length ≤ 1073741824 := by have := T.length_le_countL x.l; cases x; simp only [T.count, T.l] at *; omega
      have HC := Lib.hid hcx; clear hcx
      have HX := Lib.hid hrd; clear hrd
      have H1 := Lib.hid (below1 wr (.cells #[.int .i64 p[j].1, .bool p[j].2] 79))
      have hst := Is.new wr #[.int .i64 p[j].1, .bool p[j].2] 79
      go_wp2_with fail
      refine (impl_index x p[j] ax cx _ hi hlx).mono ?_
      rintro e w3 ⟨rfl, hb3⟩
      have hst3 := hst.below hb3 (by simp)
      have g0 := hst3.cell 0 rfl
      have g1 := hst3.cell 1 rfl
      simp only [List.getElem_toArray, List.getElem_cons_zero, List.getElem_cons_succ] at g0 g1
      have HB3 := Lib.hid (H1.out.trans (hb3.mono (by simp))); 
      have hs3 := HB3.out.size
      have lst : wr.heap.size < w3.heap.size := by have := hb3.size; simp only [size_alloc] at this; omega
      clear hb3
      have hbox3 := hbox.below HB3.out l2
      have fb3 := fun i => hbox3.frozen i
      obtain ⟨t0, t1, t2, t3, t4⟩ := hbox3.cells5
      by_cases hok : okI x p[j]
      · obtain ⟨i, hil, hie, hel⟩ := okI_nat hok
        have HST := Lib.hid (show pathT t ⟨#[36]⟩ p = pathT x.l[i] (o ++ stepT x p[j]) (p.drop (j + 1)) from by rw [← hel hil]; exact HP.out.trans (pathT_ok hlt hok))
        have HCE := Lib.hid (show T.count x.l[i] ≤ 1073741824 from by rw [← hel hil]; exact elT_count p[j] HC.out)
        have hroom : (stepT x p[j]).size + 24 * T.szL x.l[i].l ≤ 24 * T.szL x.l := by rw [← hel hil]; exact step_room hok hi
        have HOK := Lib.hid hok
        rw [idxT_ok hok, hie]
        clear hok hie hel
        go_wp2_with fail
        refine (impl_stepText x p[j] ax cx B w3 (HX.out.below HB3.out (by omega)) hi HOK.out hlx (by omega) (fun W hW => HTAB.out W (((hb.trans (HB3.out.mono hbs)).mono hB).trans hW)) (by omega)).mono ?_
        rintro e w4 ⟨rfl, hb4⟩
        have HB4 := Lib.hid (HB3.out.trans (hb4.mono (by omega))); 
        have hs4 := HB4.out.size
        clear hb4
        have hbox4 := hbox.below HB4.out l2
        have fb4 := fun i => hbox4.frozen i
        obtain ⟨u0, u1, u2, u3, u4⟩ := hbox4.cells5
        clear t0 t1 t2 t3 t4 fb3 x0 x1 x2 x3 x4 hfb
        have hXr := HX.out.below HB4.out (by omega)
        obtain ⟨b2, o2, a3, cap3, ha, hbl2, g0, g1, g2, g3, g4, _, hq⟩ := hXr.get i hil
        subst ha
        have HQ := Lib.hid hq; clear hq hXr
        go_wp2_with fail
        go_roundw
        case rel =>
          obtain ⟨_, _, _, _, _, hbel, hold, hsz⟩ := out5 hbox4.blk (.int .i64 x.l[i].k) (.int .i64 x.l[i].n) (.int .i64 x.l[i].x) (.string x.l[i].s) (.slice a3 x.l[i].l.length cap3) w.heap.size (Nat.le_refl _)
          exact ⟨j + 1, x.l[i], a3, cap3, _, by omega, by go_num, rfl, hbox4.set5 _ _ _ _ _, HQ.out.below hbel hB, HCE.out, by rw [ByteArray.size_append]; omega, HST.out, (hb.trans (HB4.out.mono hbs)).trans hbel, by rw [hsz]; omega⟩
        case measure => simp [intOf]; omega
      · have HST := Lib.hid (HP.out.trans (pathT_no hlt hok))
        rw [idxT_no hok]
        clear hok
        go_wp2_with fail
        go_ret
        exact ⟨ret_s HST.out.symm, hb.trans (HB3.out.mono hbs)⟩
    · have hjj : p.length = j := by omega
      have HJ := Lib.hid (show pathT t ⟨#[36]⟩ p = o from HP.out.trans (by rw [← hjj]; exact pathT_end x o p)); clear hjj
      go_wp2_with fail
      go_ret
      exact ⟨ret_s HJ.out.symm, hb⟩
set_option maxHeartbeats 1000000 in
theorem spec_PathText (t : T) (p : List St) (a a' : Option Addr) (cap cap' B : Nat) (w : World) (hr : R w B a cap t.l) (hr' : Rd EStep 2 w B a' cap' p) (hwf : Wf t) (hct : T.count t ≤ 1073741824) (hsz : T.szL t.l ≤ 1073741824) (hB : B ≤ w.heap.size) :
    Calls Tryz.prog 91 #[.agg (cV t a cap), .slice a' p.length cap'] w fun e w' => e = .returned (.string (pathT t ⟨#[36]⟩ p)) ∧ Below w.heap.size w w' := by
  obtain ⟨hl1, hl2⟩ := hr.len
  obtain ⟨hm1, hm2⟩ := hr'.len
  have HR := Lib.hid hr; clear hr
  have HR' := Lib.hid hr'; clear hr'
  have hz36 : (⟨#[36]⟩ : ByteArray).size = 1 := rfl
  go_enter Tryz.func91, Tryz.ntmps91
  go_wp2_with fail
  generalize hW : w.alloc (Obj.cells (cV t a cap) 36) = W0
  have H0 := Lib.hid (show Below w.heap.size w W0 from by subst hW; exact below1 _ _)
  have hs0 : W0.heap.size = w.heap.size + 1 := by subst hW; simp
  have q1 : Is W0 w.heap.size 36 (cV t a cap) := by subst hW; exact Is.new _ _ _
  clear hW
  refine (spec_l6Copy t a cap B W0 (HR.out.below H0.out hB) hwf (by omega) hct).mono ?_
  rintro e w2 ⟨a2, cap2, rfl, hown2, hb2⟩
  have hs2 := hb2.size
  have HO2 := Lib.hid hown2; clear hown2
  have H2 := Lib.hid hb2; clear hb2 q1
  have HCT := Lib.hid hct; clear hct
  have HWF := Lib.hid hwf; clear hwf
  go_wp2_with fail
  generalize hW : w2.alloc (Obj.cells (cV t a2 cap2) 36) = W1
  have g1 : Is W1 w2.heap.size 36 (cV t a2 cap2) := by subst hW; exact Is.new _ _ _
  have H1 := Lib.hid (show Below w2.heap.size w2 W1 from by subst hW; exact below1 _ _)
  have hs1 : W1.heap.size = w2.heap.size + 1 := by subst hW; simp
  clear hW
  have HO := Lib.hid ((HO2.out.below H1.out (Nat.le_refl _)).more (Nat.le_refl _) (by omega : _ ≤ W1.heap.size)); clear HO2
  have HB1 := Lib.hid ((H0.out.trans (H2.out.mono (by omega))).trans (H1.out.mono (by omega)))
  go_loopw [7, 8, 9, 5] (fun i _ _ s wr => ∃ (j : Nat) (x : T) (ax : Option Addr) (cx : Nat) (o : ByteArray), j ≤ p.length ∧ i = .int .i64 j ∧ s = .string o ∧ Is wr w2.heap.size 36 (cV x ax cx) ∧ Own wr W0.heap.size wr.heap.size ax cx x.l ∧ Wf x ∧ T.count x ≤ 1073741824 ∧ o.size + 24 * T.szL x.l ≤ 1 + 24 * T.szL t.l ∧ Hid (pathT t ⟨#[36]⟩ p = pathT x o (p.drop j)) ∧ Below w.heap.size w wr ∧ w2.heap.size < wr.heap.size) (fun i _ _ _ _ => p.length - (intOf i).toNat)
  case atStart => exact ⟨0, t, a2, cap2, _, Nat.zero_le _, rfl, rfl, g1, HO.out, HWF.out, HCT.out, by omega, rfl, HB1.out, by omega⟩
  case round =>
    obtain ⟨j, x, ax, cx, so, hj, rfl, rfl, hbox, hown, hwx, hcx, hos, HP, hb, hws⟩ := hrel
    have hbs := hb.size
    obtain ⟨x0, x1, x2, x3, x4⟩ := hbox.cells5
    by_cases hlt : j < p.length
    · obtain ⟨b, o, ha, hbl, d0, d1, hi⟩ := (HR'.out.below EStep.loc hb hB).step j hlt
      subst ha
      have hlb : b < wr.heap.size := by omega
      have hlx : x.l.length ≤ 1073741824 := by have := T.length_le_countL x.l; cases x; simp only [T.count, T.l] at *; omega
      have HW := Lib.hid hwx; clear hwx
      have HC := Lib.hid hcx; clear hcx
      have HX := Lib.hid hown; clear hown
      have HI := Lib.hid hi; clear hi
      go_wp2_with fail
      refine wp_region_held_drew (S := fun w' => (∀ b o, b < wr.heap.size → w'.cell? ⟨b, o, none⟩ = wr.cell? ⟨b, o, none⟩) ∧ Below (wr.heap.size) wr w') (by kernel_rfl) (by first | exact ⟨fun _ _ _ => rfl, (Below.refl _ _).drew⟩ | exact keep_step (by assumption) (Below.drew (Below.refl _ _)) (Nat.le_refl _) | exact keep_step (by assumption) (by assumption) (by first | omega | ((try simp only [World.size_drew, size_alloc]); omega) | (have := (‹(_ ∧ Below (wr.heap.size) wr _)›).2.size; (try simp only [World.size_drew, size_alloc] at this ⊢); omega))) (fun hHeld => ?_)
      refine wpAnyH_take (i := 0) (oi := ⟨some 19, _, _, _, _, _⟩) (v := ?_) rfl (by kernel_rfl) (by kernel_rfl) (by kernel_rfl) (fun _ _ _ h => h) (Or.inl ⟨by rfl, ?_⟩) (by assumption) ?_
      rotate_left 1
      · (intro w hSw; (try dsimp only at hSw); go_simp; try (with_reducible rfl))
      try simp only [Act.put, List.setIfInBounds_toArray, List.set_cons_zero, List.set_cons_succ]
      refine wpAnyH_take (i := 1) (oi := ⟨some 20, _, _, _, _, _⟩) (v := ?_) rfl (by kernel_rfl) (by kernel_rfl) (by kernel_rfl) (fun _ _ _ h => h) (Or.inl ⟨by rfl, ?_⟩) (by assumption) ?_
      rotate_left 1
      · (intro w hSw; (try dsimp only at hSw); go_simp; try (with_reducible rfl))
      try simp only [Act.put, List.setIfInBounds_toArray, List.set_cons_zero, List.set_cons_succ]
      refine wpAnyH_take (i := 2) (oi := ⟨some 21, _, _, _, _, _⟩) (v := ?_) rfl (by kernel_rfl) (by kernel_rfl) (by kernel_rfl) (fun _ _ _ h => h) (Or.inl ⟨by rfl, ?_⟩) (by assumption) ?_
      rotate_left 1
      · (intro w hSw; (try dsimp only at hSw); go_simp; try (with_reducible rfl))
      try simp only [Act.put, List.setIfInBounds_toArray, List.set_cons_zero, List.set_cons_succ]
      refine wpAnyH_take (i := 3) (oi := ⟨some 22, _, _, _, _, _⟩) (v := ?_) rfl (by kernel_rfl) (by kernel_rfl) (by kernel_rfl) (fun _ _ _ h => h) (Or.inl ⟨by rfl, ?_⟩) (by assumption) ?_
      rotate_left 1
      · (intro w hSw; (try dsimp only at hSw); go_simp; try (with_reducible rfl))
      try simp only [Act.put, List.setIfInBounds_toArray, List.set_cons_zero, List.set_cons_succ]
      refine wpAnyH_take (i := 4) (oi := ⟨some 23, _, _, _, _, _⟩) (v := ?_) rfl (by kernel_rfl) (by kernel_rfl) (by kernel_rfl) (fun _ _ _ h => h) (Or.inl ⟨by rfl, ?_⟩) (by assumption) ?_
      rotate_left 1
      · (intro w hSw; (try dsimp only at hSw); go_simp; try (with_reducible rfl))
      try simp only [Act.put, List.setIfInBounds_toArray, List.set_cons_zero, List.set_cons_succ]
      refine wpAnyH_ready (rs := [5, 9]) (by kernel_rfl) (by simp) ?_
      refine AllReadyH.cons (o := ⟨some 24, _, _, _, _, _⟩) rfl (fun K hK => ?_) ?_
      focus (go_simp; (first | (go_at_call 141; refine (spec_StepVal x p[j] ax cx _ _ (HX.out.read.below (‹_ ∧ Below (wr.heap.size) wr _›).2 (Nat.le_refl _)) HW.out HI.out HC.out (‹_ ∧ Below (wr.heap.size) wr _›).2.size).mono ?_; rintro e w3 ⟨a3, cap3, rfl, ho3, hb3⟩; first | (have p8 := (Is.drew (Is.new wr zV 36)).below hb3 (by simp); have f8 := (fun i => p8.frozen i); obtain ⟨y0, y1, y2, y3, y4⟩ := p8.cells5) | skip; have hsz3 : wr.heap.size ≤ w3.heap.size := (by have := hb3.size; simp only [World.size_drew, size_alloc] at this; omega))); go_wp2_with fail; refine hK.out _ _ (by first | exact ⟨fun _ _ _ => rfl, (Below.refl _ _).drew⟩ | exact keep_step (by assumption) (Below.drew (Below.refl _ _)) (Nat.le_refl _) | exact keep_step (by assumption) (by assumption) (by first | omega | ((try simp only [World.size_drew, size_alloc]); omega) | (have := (‹(_ ∧ Below (wr.heap.size) wr _)›).2.size; (try simp only [World.size_drew, size_alloc] at this ⊢); omega))) (fun hHeld => ?_); clear hK K; try simp only [Act.put, List.setIfInBounds_toArray, List.set_cons_zero, List.set_cons_succ])
      refine wpAnyH_take (i := 6) (oi := ⟨some 18, _, _, _, _, _⟩) (v := ?_) rfl (by kernel_rfl) (by kernel_rfl) (by kernel_rfl) (fun _ _ _ h => h) (Or.inl ⟨by rfl, ?_⟩) (by assumption) ?_
      rotate_left 1
      · (intro w hSw; (try dsimp only at hSw); go_simp; try (with_reducible rfl))
      try simp only [Act.put, List.setIfInBounds_toArray, List.set_cons_zero, List.set_cons_succ]
      refine wpAnyH_take (i := 7) (oi := ⟨some 25, _, _, _, _, _⟩) (v := ?_) rfl (by kernel_rfl) (by kernel_rfl) (by kernel_rfl) (fun _ _ _ h => h) (Or.inl ⟨by rfl, ?_⟩) (by assumption) ?_
      rotate_left 1
      · (intro w hSw; (try dsimp only at hSw); go_simp; try (with_reducible rfl))
      try simp only [Act.put, List.setIfInBounds_toArray, List.set_cons_zero, List.set_cons_succ]
      refine wpAnyH_take (i := 8) (oi := ⟨some 26, _, _, _, _, _⟩) (v := ?_) rfl (by kernel_rfl) (by kernel_rfl) (by kernel_rfl) (fun _ _ _ h => h) (Or.inl ⟨by rfl, ?_⟩) (by assumption) ?_
      rotate_left 1
      · (intro w hSw; (try dsimp only at hSw); go_simp; try (with_reducible rfl))
      try simp only [Act.put, List.setIfInBounds_toArray, List.set_cons_zero, List.set_cons_succ]
      refine wpAnyH_ready (rs := [9]) (by kernel_rfl) (by simp) ?_
      refine AllReadyH.cons (o := ⟨some 8, _, _, _, _, _⟩) rfl (fun K hK => ?_) AllReadyH.nil
      focus (go_simp; go_wp2_with fail; refine hK.out _ _ (by first | (with_reducible exact keep_step (by assumption) (below1 _ _) (by first | omega | ((try simp only [World.size_drew, size_alloc]); omega) | (have := (‹(_ ∧ Below (wr.heap.size) wr _)›).2.size; (try simp only [World.size_drew, size_alloc] at this ⊢); omega))) | (exact keep_step (by assumption) (below1 _ _) (by first | omega | ((try simp only [World.size_drew, size_alloc]); omega) | (have := (‹(_ ∧ Below (wr.heap.size) wr _)›).2.size; (try simp only [World.size_drew, size_alloc] at this ⊢); omega)))) (fun hHeld => ?_); clear hK K; try simp only [Act.put, List.setIfInBounds_toArray, List.set_cons_zero, List.set_cons_succ])
      refine wpAnyH_ready (rs := [10]) (by kernel_rfl) (by simp) ?_
      refine AllReadyH.cons (o := ⟨none, _, _, _, _, _⟩) rfl (fun K hK => ?_) AllReadyH.nil
      focus (go_simp; go_wp2_with fail; refine hK.out _ _ (by exact keep_step (by assumption) (below1 _ _) (by first | omega | ((try simp only [World.size_drew, size_alloc]); omega) | (have := (‹(_ ∧ Below (wr.heap.size) wr _)›).2.size; (try simp only [World.size_drew, size_alloc] at this ⊢); omega))) (fun hHeld => ?_); clear hK K; try simp only [Act.put])
      refine wpAnyH_take (i := 11) (oi := ⟨some 9, _, _, _, _, _⟩) (v := ?_) rfl (by kernel_rfl) (by kernel_rfl) (by kernel_rfl) (fun _ _ _ h => h) (Or.inl ⟨by rfl, ?_⟩) (by assumption) ?_
      rotate_left 1
      · (intro w hSw; (try dsimp only at hSw); go_simp; try (with_reducible rfl))
      try simp only [Act.put, List.setIfInBounds_toArray, List.set_cons_zero, List.set_cons_succ]
      refine wpAnyH_done (by kernel_rfl) ?_ _
      rotate_left 1
      refine AllReadyH.cons (o := ⟨some 8, _, _, _, _, _⟩) rfl (fun K hK => ?_) AllReadyH.nil
      focus (go_simp; go_wp2_with fail; refine hK.out _ _ (by first | (with_reducible exact keep_step (by assumption) (below1 _ _) (by first | omega | ((try simp only [World.size_drew, size_alloc]); omega) | (have := (‹(_ ∧ Below (wr.heap.size) wr _)›).2.size; (try simp only [World.size_drew, size_alloc] at this ⊢); omega))) | (exact keep_step (by assumption) (below1 _ _) (by first | omega | ((try simp only [World.size_drew, size_alloc]); omega) | (have := (‹(_ ∧ Below (wr.heap.size) wr _)›).2.size; (try simp only [World.size_drew, size_alloc] at this ⊢); omega)))) (fun hHeld => ?_); clear hK K; try simp only [Act.put, List.setIfInBounds_toArray, List.set_cons_zero, List.set_cons_succ])
      refine wpAnyH_ready (rs := [5]) (by kernel_rfl) (by simp) ?_
      refine AllReadyH.cons (o := ⟨some 24, _, _, _, _, _⟩) rfl (fun K hK => ?_) AllReadyH.nil
      focus (go_simp; (first | (go_at_call 141; refine (spec_StepVal x p[j] ax cx _ _ (HX.out.read.below (‹_ ∧ Below (wr.heap.size) wr _›).2 (Nat.le_refl _)) HW.out HI.out HC.out (‹_ ∧ Below (wr.heap.size) wr _›).2.size).mono ?_; rintro e w3 ⟨a3, cap3, rfl, ho3, hb3⟩; first | (have p8 := (Is.drew (Is.new wr zV 36)).below hb3 (by simp); have f8 := (fun i => p8.frozen i); obtain ⟨y0, y1, y2, y3, y4⟩ := p8.cells5) | skip; have hsz3 : wr.heap.size ≤ w3.heap.size := (by have := hb3.size; simp only [World.size_drew, size_alloc] at this; omega))); go_wp2_with fail; refine hK.out _ _ (by first | exact ⟨fun _ _ _ => rfl, (Below.refl _ _).drew⟩ | exact keep_step (by assumption) (Below.drew (Below.refl _ _)) (Nat.le_refl _) | exact keep_step (by assumption) (by assumption) (by first | omega | ((try simp only [World.size_drew, size_alloc]); omega) | (have := (‹(_ ∧ Below (wr.heap.size) wr _)›).2.size; (try simp only [World.size_drew, size_alloc] at this ⊢); omega))) (fun hHeld => ?_); clear hK K; try simp only [Act.put, List.setIfInBounds_toArray, List.set_cons_zero, List.set_cons_succ])
      refine wpAnyH_take (i := 6) (oi := ⟨some 18, _, _, _, _, _⟩) (v := ?_) rfl (by kernel_rfl) (by kernel_rfl) (by kernel_rfl) (fun _ _ _ h => h) (Or.inl ⟨by rfl, ?_⟩) (by assumption) ?_
      rotate_left 1
      · (intro w hSw; (try dsimp only at hSw); go_simp; try (with_reducible rfl))
      try simp only [Act.put, List.setIfInBounds_toArray, List.set_cons_zero, List.set_cons_succ]
      refine wpAnyH_take (i := 7) (oi := ⟨some 25, _, _, _, _, _⟩) (v := ?_) rfl (by kernel_rfl) (by kernel_rfl) (by kernel_rfl) (fun _ _ _ h => h) (Or.inl ⟨by rfl, ?_⟩) (by assumption) ?_
      rotate_left 1
      · (intro w hSw; (try dsimp only at hSw); go_simp; try (with_reducible rfl))
      try simp only [Act.put, List.setIfInBounds_toArray, List.set_cons_zero, List.set_cons_succ]
      refine wpAnyH_take (i := 8) (oi := ⟨some 26, _, _, _, _, _⟩) (v := ?_) rfl (by kernel_rfl) (by kernel_rfl) (by kernel_rfl) (fun _ _ _ h => h) (Or.inl ⟨by rfl, ?_⟩) (by assumption) ?_
      rotate_left 1
      · (intro w hSw; (try dsimp only at hSw); go_simp; try (with_reducible rfl))
      try simp only [Act.put, List.setIfInBounds_toArray, List.set_cons_zero, List.set_cons_succ]
      refine wpAnyH_ready (rs := [10]) (by kernel_rfl) (by simp) ?_
      refine AllReadyH.cons (o := ⟨none, _, _, _, _, _⟩) rfl (fun K hK => ?_) AllReadyH.nil
      focus (go_simp; go_wp2_with fail; refine hK.out _ _ (by exact keep_step (by assumption) (below5 _ _ _ _ _ _ _) (by omega)) (fun hHeld => ?_); clear hK K; try simp only [Act.put])
      refine wpAnyH_take (i := 11) (oi := ⟨some 9, _, _, _, _, _⟩) (v := ?_) rfl (by kernel_rfl) (by kernel_rfl) (by kernel_rfl) (fun _ _ _ h => h) (Or.inl ⟨by rfl, ?_⟩) (by assumption) ?_
      rotate_left 1
      · (intro w hSw; (try dsimp only at hSw); go_simp; try (with_reducible rfl))
      try simp only [Act.put, List.setIfInBounds_toArray, List.set_cons_zero, List.set_cons_succ]
      refine wpAnyH_done (by kernel_rfl) ?_ _
      focus
        have hI8 := p8.set5 (.int .i64 (elT x p[j]).k) (.int .i64 (elT x p[j]).n) (.int .i64 (elT x p[j]).x) (.string (elT x p[j]).s) (.slice a3 (elT x p[j]).l.length cap3)
        obtain ⟨_, _, _, _, _, hbel, hold, hsz⟩ := out5 p8.blk (.int .i64 (elT x p[j]).k) (.int .i64 (elT x p[j]).n) (.int .i64 (elT x p[j]).x) (.string (elT x p[j]).s) (.slice a3 (elT x p[j]).l.length cap3) wr.heap.size (Nat.le_refl _)
        have hO8 := ho3.agree (fun f h1 _ => hold f (by simp only [World.size_drew, size_alloc] at h1; omega))
        have hB8 : Below wr.heap.size wr _ := (((below1 wr (.cells zV 36)).drew).trans (hb3.mono (by simp only [World.size_drew, size_alloc]; omega))).trans hbel
        have hge8 : wr.heap.size ≤ wr.heap.size := Nat.le_refl _
        rw [← hsz] at hO8
        have hO8 := hO8.more (lo' := wr.heap.size) (by simp only [World.size_drew, size_alloc]; omega) (Nat.le_refl _)
        have hlt8 := hI8.lt
        generalize (((((w3.setCell ⟨wr.heap.size, 0, none⟩ (.int .i64 (elT x p[j]).k)).setCell ⟨wr.heap.size, 1, none⟩ (.int .i64 (elT x p[j]).n)).setCell ⟨wr.heap.size, 2, none⟩ (.int .i64 (elT x p[j]).x)).setCell ⟨wr.heap.size, 3, none⟩ (.string (elT x p[j]).s)).setCell ⟨wr.heap.size, 4, none⟩ (.slice a3 (elT x p[j]).l.length cap3)) = W8 at *
        clear hbel hold hsz ho3 hb3 p8 f8 y0 y1 y2 y3 y4
      rotate_left 1
      focus
        have hI8 := Is.new w3 (cV (elT x p[j]) a3 cap3) 36
        have hO8 := (ho3.below (below1 w3 (.cells (cV (elT x p[j]) a3 cap3) 36)) (Nat.le_refl _)).more (lo' := wr.heap.size) (hi' := (w3.alloc (.cells (cV (elT x p[j]) a3 cap3) 36)).heap.size) (by simp only [World.size_drew]; omega) (by simp)
        have hB8 : Below wr.heap.size wr _ := (((Below.refl wr.heap.size wr).drew.trans hb3)).trans ((below1 w3 (.cells (cV (elT x p[j]) a3 cap3) 36)).mono hsz3)
        have hge8 : wr.heap.size ≤ w3.heap.size := hsz3
        have hlt8 := hI8.lt
        generalize w3.alloc (.cells (cV (elT x p[j]) a3 cap3) 36) = W8 at *
        clear ho3 hb3 hsz3
      rotate_left 1
      all_goals
        have hI8c := hI8.cells5
        obtain ⟨n0, n1, n2, n3, n4⟩ := hI8c
        have hbox8 := hbox.below hB8 hws
        have fb8 := fun i => hbox8.frozen i
        obtain ⟨m0, m1, m2, m3, m4⟩ := hbox8.cells5
        have hs8 := hB8.size
        have hwfe := Lib.hid (elT_wf HX.out.read p[j])
        have hcte := Lib.hid (elT_count p[j] HC.out)
        have HB8 := Lib.hid (hb.trans (hB8.mono hbs))
        have HO8 := Lib.hid hO8
        have HXR := Lib.hid (HX.out.read.below hB8 (Nat.le_refl _))
        obtain ⟨b4, o4, ha, hbl4, e0, e1, _⟩ := (HR'.out.below EStep.loc HB8.out hB).step j hlt
        injection ha with ha; injection ha with ha ha2; subst ha ha2
        have hlb8 : b < W8.heap.size := by omega
        have hlw8 : w2.heap.size < W8.heap.size := by omega
        clear hB8 hO8
        by_cases hok : okI x p[j]
        · have HST := Lib.hid (HP.out.trans (pathT_ok hlt hok))
          have hroom := step_room hok HI.out
          have HOK := Lib.hid hok
          have hd : decide (okI x p[j]) = true := decide_eq_true hok
          rw [hd]
          clear hok hd
          go_wp2_with fail
          refine wp_region_held_drew (S := fun w' => (∀ b o, b < W8.heap.size → w'.cell? ⟨b, o, none⟩ = W8.cell? ⟨b, o, none⟩) ∧ Below (W8.heap.size) W8 w') (by kernel_rfl) (by first | exact ⟨fun _ _ _ => rfl, (Below.refl _ _).drew⟩ | exact keep_step (by assumption) (Below.drew (Below.refl _ _)) (Nat.le_refl _) | exact keep_step (by assumption) (by assumption) (by first | omega | ((try simp only [World.size_drew, size_alloc]); omega) | (have := (‹(_ ∧ Below (W8.heap.size) W8 _)›).2.size; (try simp only [World.size_drew, size_alloc] at this ⊢); omega))) (fun hHeld => ?_)
          refine wpAnyH_take (i := 0) (oi := ⟨some 30, _, _, _, _, _⟩) (v := ?_) rfl (by kernel_rfl) (by kernel_rfl) (by kernel_rfl) (fun _ _ _ h => h) (Or.inl ⟨by rfl, ?_⟩) (by assumption) ?_
          rotate_left 1
          · (intro w hSw; (try dsimp only at hSw); go_simp; try (with_reducible rfl))
          try simp only [Act.put, List.setIfInBounds_toArray, List.set_cons_zero, List.set_cons_succ]
          refine wpAnyH_take (i := 1) (oi := ⟨some 31, _, _, _, _, _⟩) (v := ?_) rfl (by kernel_rfl) (by kernel_rfl) (by kernel_rfl) (fun _ _ _ h => h) (Or.inl ⟨by rfl, ?_⟩) (by assumption) ?_
          rotate_left 1
          · (intro w hSw; (try dsimp only at hSw); go_simp; try (with_reducible rfl))
          try simp only [Act.put, List.setIfInBounds_toArray, List.set_cons_zero, List.set_cons_succ]
          refine wpAnyH_take (i := 2) (oi := ⟨some 32, _, _, _, _, _⟩) (v := ?_) rfl (by kernel_rfl) (by kernel_rfl) (by kernel_rfl) (fun _ _ _ h => h) (Or.inl ⟨by rfl, ?_⟩) (by assumption) ?_
          rotate_left 1
          · (intro w hSw; (try dsimp only at hSw); go_simp; try (with_reducible rfl))
          try simp only [Act.put, List.setIfInBounds_toArray, List.set_cons_zero, List.set_cons_succ]
          refine wpAnyH_take (i := 3) (oi := ⟨some 33, _, _, _, _, _⟩) (v := ?_) rfl (by kernel_rfl) (by kernel_rfl) (by kernel_rfl) (fun _ _ _ h => h) (Or.inl ⟨by rfl, ?_⟩) (by assumption) ?_
          rotate_left 1
          · (intro w hSw; (try dsimp only at hSw); go_simp; try (with_reducible rfl))
          try simp only [Act.put, List.setIfInBounds_toArray, List.set_cons_zero, List.set_cons_succ]
          refine wpAnyH_take (i := 4) (oi := ⟨some 34, _, _, _, _, _⟩) (v := ?_) rfl (by kernel_rfl) (by kernel_rfl) (by kernel_rfl) (fun _ _ _ h => h) (Or.inl ⟨by rfl, ?_⟩) (by assumption) ?_
          rotate_left 1
          · (intro w hSw; (try dsimp only at hSw); go_simp; try (with_reducible rfl))
          try simp only [Act.put, List.setIfInBounds_toArray, List.set_cons_zero, List.set_cons_succ]
          refine wpAnyH_take (i := 5) (oi := ⟨some 35, _, _, _, _, _⟩) (v := ?_) rfl (by kernel_rfl) (by kernel_rfl) (by kernel_rfl) (fun _ _ _ h => h) (Or.inl ⟨by rfl, ?_⟩) (by assumption) ?_
          rotate_left 1
          · (intro w hSw; (try dsimp only at hSw); go_simp; try (with_reducible rfl))
          try simp only [Act.put, List.setIfInBounds_toArray, List.set_cons_zero, List.set_cons_succ]
          refine wpAnyH_ready (rs := [6]) (by kernel_rfl) (by simp) ?_
          refine AllReadyH.cons (o := ⟨some 36, _, _, _, _, _⟩) rfl (fun K hK => ?_) AllReadyH.nil
          go_simp
          (go_at_call 146; refine (spec_l8Text x p[j] ax cx wr.heap.size _ (HXR.out.below (‹_ ∧ Below (W8.heap.size) W8 _›).2 (by omega)) HI.out HOK.out hlx (by omega) (Nat.le_trans (by omega) (‹_ ∧ Below (W8.heap.size) W8 _›).2.size)).mono ?_; rintro e w4 ⟨rfl, hb4⟩)
          go_wp2_with fail
          refine hK.out _ _ (by first | exact ⟨fun _ _ _ => rfl, (Below.refl _ _).drew⟩ | exact keep_step (by assumption) (Below.drew (Below.refl _ _)) (Nat.le_refl _) | exact keep_step (by assumption) (by assumption) (by first | omega | ((try simp only [World.size_drew, size_alloc]); omega) | (have := (‹(_ ∧ Below (W8.heap.size) W8 _)›).2.size; (try simp only [World.size_drew, size_alloc] at this ⊢); omega))) (fun hHeld => ?_)
          clear hK K
          try simp only [Act.put, List.setIfInBounds_toArray, List.set_cons_zero, List.set_cons_succ]
          refine wpAnyH_ready (rs := [7]) (by kernel_rfl) (by simp) ?_
          refine AllReadyH.cons (o := ⟨some 37, _, _, _, _, _⟩) rfl (fun K hK => ?_) AllReadyH.nil
          focus (go_simp; go_wp2_with fail; refine hK.out _ _ (by first | assumption | first | exact ⟨fun _ _ _ => rfl, (Below.refl _ _).drew⟩ | exact keep_step (by assumption) (Below.drew (Below.refl _ _)) (Nat.le_refl _) | exact keep_step (by assumption) (by assumption) (by first | omega | ((try simp only [World.size_drew, size_alloc]); omega) | (have := (‹(_ ∧ Below (W8.heap.size) W8 _)›).2.size; (try simp only [World.size_drew, size_alloc] at this ⊢); omega))) (fun hHeld => ?_); clear hK K; try simp only [Act.put, List.setIfInBounds_toArray, List.set_cons_zero, List.set_cons_succ])
          refine wpAnyH_take (i := 8) (oi := ⟨some 5, _, _, _, _, _⟩) (v := ?_) rfl (by kernel_rfl) (by kernel_rfl) (by kernel_rfl) (fun _ _ _ h => h) (Or.inl ⟨by rfl, ?_⟩) (by assumption) ?_
          rotate_left 1
          · (intro w hSw; (try dsimp only at hSw); go_simp; try (with_reducible rfl))
          try simp only [Act.put, List.setIfInBounds_toArray, List.set_cons_zero, List.set_cons_succ]
          refine wpAnyH_done (by kernel_rfl) ?_ _
          all_goals (have HB9 := Lib.hid (show Below W8.heap.size W8 w4 from (‹_ ∧ Below (W8.heap.size) W8 _›).2))
          have hbox9 := hbox8.below HB9.out hlw8
          have fb9 := fun i => hbox9.frozen i
          obtain ⟨v0, v1, v2, v3, v4⟩ := hbox9.cells5
          have hI9 := hI8.below HB9.out (by omega)
          obtain ⟨r0, r1, r2, r3, r4⟩ := hI9.cells5
          have hs9 := HB9.out.size
          go_wp2_with fail
          go_roundw
          case rel =>
            obtain ⟨_, _, _, _, _, hbel, hold, hsz⟩ := out5 hbox9.blk (.int .i64 (elT x p[j]).k) (.int .i64 (elT x p[j]).n) (.int .i64 (elT x p[j]).x) (.string (elT x p[j]).s) (.slice a3 (elT x p[j]).l.length cap3) w2.heap.size (Nat.le_refl _)
            refine ⟨j + 1, elT x p[j], a3, cap3, _, by omega, by go_num, rfl, hbox9.set5 _ _ _ _ _, ?_, hwfe.out, hcte.out, by rw [ByteArray.size_append]; omega, HST.out, (HB8.out.trans (HB9.out.mono (by omega))).trans (hbel.mono (by omega)), by rw [hsz]; omega⟩
            rw [hsz]
            exact (((HO8.out.below HB9.out (Nat.le_refl _)).more (Nat.le_refl _) hs9).agree (fun f h1 _ => hold f (by omega))).more (by omega) (Nat.le_refl _)
          case measure => simp [intOf]; omega
        · have HST := Lib.hid (HP.out.trans (pathT_no hlt hok))
          have hd : decide (okI x p[j]) = false := decide_eq_false hok
          rw [hd]
          clear hok hd
          go_wp2_with fail
          go_ret
          exact ⟨ret_s HST.out.symm, HB8.out⟩
    · have hjj : p.length = j := by omega
      have HJ := Lib.hid (show pathT t ⟨#[36]⟩ p = so from HP.out.trans (by rw [← hjj]; exact pathT_end x so p)); clear hjj
      go_wp2_with fail
      go_ret
      exact ⟨ret_s HJ.out.symm, hb⟩
end Go.Proofs.YtfbodhfdomdkpaaGreatDoor
