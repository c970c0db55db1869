/- Texts of this proof, merged: PText, PutR, Esc, Quo. No condition beyond what each theorem states. -/
import Derived.Test.YthpmfkkmhbbloaaGreatDoorRows
import Derived.WalkKit
import Derived.ProofKit
import Derived.OpenShut
import Derived.Handy
import Derived.Lib.Hide
import Derived.Lib.SmallJoins
import Derived.Deep.RegionHeld3
import Derived.Deep.AppendLies
import Derived.Deep.QuietTactic
import Derived.BigQuiet
import Derived.Lib.AppendIntMem
import Derived.Lib.ItoaLen
import Derived.Test.YthpmfkkmhbbloaaGreatDoorZF1
import Derived.Test.YthpmfkkmhbbloaaGreatDoorZF2
import Derived.Test.YthpmfkkmhbbloaaGreatDoorZF3
import Derived.Test.YthpmfkkmhbbloaaGreatDoorZF7
import Derived.Test.YthpmfkkmhbbloaaGreatDoorShelf
import Derived.Laws.BytesArg
import Derived.Deep.RegionLaw
import Derived.Lib.ValidAsc
import Derived.Test.YthpmfkkmhbbloaaGreatDoorZF4
import Derived.Test.YthpmfkkmhbbloaaGreatDoorZF10
import Derived.Lib.ConvBytes
import Derived.Test.YthpmfkkmhbbloaaGreatDoorZF9
set_option linter.unusedSimpArgs false
set_option linter.unnecessarySimpa false
namespace Go.Proofs.YthpmfkkmhbbloaaGreatDoor
open Go.ChangeShapes Go.WideShapes Go.ChangeAt Go.RowKit Go.Joins
set_option linter.unusedVariables false
set_option maxRecDepth 100000
theorem numT_size {n : Int} (h : I64 n) : (numT n).size ≤ 21 := by
  have := Lib.itoa_length_le n h.1 h.2
  unfold numT
  simpa [ByteArray.size] using this
/-- A map's name, at a step's place. -/
def nmT (t : T) (s : St) : T := t.l.getD (2 * s.1).toNat zT
def nmX (t : T) (s : St) : ByteArray := if (nmT t s).k = 7 then ⟨#[46]⟩ ++ (nmT t s).s else ⟨#[46, 35]⟩ ++ numT s.1
def stepT (t : T) (s : St) : ByteArray :=
  if t.k = 10 then (if s.2 then nmX t s ++ ⟨#[126]⟩ else nmX t s) else if t.k = 11 then ⟨#[33]⟩ else (⟨#[91]⟩ ++ numT s.1) ++ ⟨#[93]⟩
def pathT : T → ByteArray → List St → ByteArray
  | _, o, [] => o
  | t, o, s :: r => if okI t s then pathT (elT t s) (o ++ stepT t s) r else o
theorem pathT_ok {x : T} {o : ByteArray} {p : List St} {j : Nat} (hj : j < p.length) (h : okI x p[j]) : pathT x o (p.drop j) = pathT (elT x p[j]) (o ++ stepT x p[j]) (p.drop (j + 1)) := by
  rw [List.drop_eq_getElem_cons hj, pathT, if_pos h]
theorem pathT_no {x : T} {o : ByteArray} {p : List St} {j : Nat} (hj : j < p.length) (h : ¬ okI x p[j]) : pathT x o (p.drop j) = o := by
  rw [List.drop_eq_getElem_cons hj, pathT, if_neg h]
theorem pathT_end (x : T) (o : ByteArray) (p : List St) : pathT x o (p.drop p.length) = o := by rw [List.drop_length, pathT]
theorem nm_nat {t : T} {s : St} (h : okI t s) (hk : t.k = 10) : ∃ i : Nat, i < t.l.length ∧ 2 * s.1 = i ∧ ∀ hi : i < t.l.length, nmT t s = t.l[i] := by
  have h0 := h.1
  have h2 := h.2.2
  unfold rawI at h2
  rw [if_pos hk] at h2
  have h3 : 2 * s.1 < (t.l.length : Int) := by split at h2 <;> omega
  refine ⟨(2 * s.1).toNat, by omega, by omega, fun hi => ?_⟩
  unfold nmT; rw [List.getD_eq_getElem?_getD, List.getElem?_eq_getElem hi]; rfl
theorem nmX_size {t : T} {s : St} (hi : I64 s.1) : (nmX t s).size ≤ 23 + (nmT t s).s.size := by
  have := numT_size hi
  unfold nmX
  split
  · rw [ByteArray.size_append]; have : (⟨#[46]⟩ : ByteArray).size = 1 := rfl; omega
  · rw [ByteArray.size_append]; have : (⟨#[46, 35]⟩ : ByteArray).size = 2 := rfl; omega
theorem s_le_sz (u : T) : u.s.size + T.szL u.l ≤ T.sz u := by cases u; simp only [T.s, T.l, T.sz]; omega
theorem step_room {t : T} {s : St} (h : okI t s) (hi : I64 s.1) : (stepT t s).size + 24 * T.szL (elT t s).l ≤ 24 * T.szL t.l := by
  obtain ⟨j, hjl, hje, hej⟩ := okI_nat h
  have he := hej hjl
  have h3 := T.sz_get t.l j hjl
  have h4 := s_le_sz t.l[j]
  rw [← he] at h3 h4
  have e33 : (⟨#[33]⟩ : ByteArray).size = 1 := rfl
  have e91 : (⟨#[91]⟩ : ByteArray).size = 1 := rfl
  have e93 : (⟨#[93]⟩ : ByteArray).size = 1 := rfl
  have e126 : (⟨#[126]⟩ : ByteArray).size = 1 := rfl
  have hn := numT_size hi
  by_cases hk : t.k = 10
  · obtain ⟨i, hil, hie, hel⟩ := nm_nat h hk
    have hx := nmX_size (t := t) hi
    have hs : (stepT t s).size ≤ 24 + (nmT t s).s.size := by
      unfold stepT; rw [if_pos hk]; split
      · rw [ByteArray.size_append]; omega
      · omega
    have h5 := s_le_sz t.l[i]
    unfold rawI at hje
    rw [if_pos hk] at hje
    by_cases hq : s.2 = true
    · rw [if_pos hq] at hje
      obtain rfl : i = j := by omega
      rw [hel hil] at hs
      rw [he] at h3 h4 ⊢
      omega
    · rw [if_neg hq] at hje
      obtain rfl : j = i + 1 := by omega
      have h1 := T.szL_take_succ t.l i hil
      have h2 := T.szL_take_succ t.l (i + 1) hjl
      have h6 := T.szL_take_le t.l (i + 1 + 1)
      rw [hel hil] at hs
      rw [he] at h3 h4 ⊢
      omega
  · have hs : (stepT t s).size ≤ 23 := by
      unfold stepT; rw [if_neg hk]; split
      · omega
      · rw [ByteArray.size_append, ByteArray.size_append]; omega
    omega
theorem pathT_size (p : List St) (hp : ∀ s ∈ p, I64 s.1) : ∀ (t : T) (o : ByteArray), (pathT t o p).size ≤ o.size + 24 * T.szL t.l := by
  induction p with
  | nil => intro t o; rw [pathT]; omega
  | cons s r ih =>
    intro t o
    rw [pathT]
    split
    · rename_i h
      have h1 := ih (fun s hs => hp s (by simp [hs])) (elT t s) (o ++ stepT t s)
      have h2 := step_room h (hp s (by simp))
      rw [ByteArray.size_append] at h1
      omega
    · omega
end Go.Proofs.YthpmfkkmhbbloaaGreatDoor
namespace Go.Proofs.YthpmfkkmhbbloaaGreatDoor
open Go.ChangeShapes Go.WideShapes Go.ChangeAt Go.RowKit Go.Joins
set_option linter.unusedVariables false
set_option maxRecDepth 100000
/-- The bytes of a character. -/
def encN (n : Int) : List Int :=
  if n < 128 then [n] else if n < 2048 then [192 + n / 64, 128 + n % 64] else if n < 65536 then [224 + n / 4096, 128 + n / 64 % 64, 128 + n % 64] else [240 + n / 262144, 128 + n / 4096 % 64, 128 + n / 64 % 64, 128 + n % 64]
theorem encN_str (n : Int) (h : runeOk n) : strOfNums (encN n) = Utf8.encode n := by
  obtain ⟨u, rfl⟩ : ∃ u : Nat, n = u := ⟨n.toNat, by have := h.1; omega⟩
  obtain ⟨h1, h2⟩ := h
  have hv : Utf8.valid (u : Int) = true := by
    simp [Utf8.valid]; omega
  unfold encN Utf8.encode strOfNums
  rw [if_pos hv]
  simp only [Int.toNat_natCast]
  by_cases c1 : u < 128
  · rw [if_pos (show (u : Int) < 128 from by omega), if_pos c1]; rfl
  · rw [if_neg (show ¬ (u : Int) < 128 from by omega), if_neg c1]
    by_cases c2 : u < 2048
    · rw [if_pos (show (u : Int) < 2048 from by omega), if_pos c2]
      simp only [List.map_cons, List.map_nil]
      rw [show (192 + (u : Int) / 64).toNat = 192 + u / 64 from by omega, show (128 + (u : Int) % 64).toNat = 128 + u % 64 from by omega]
    · rw [if_neg (show ¬ (u : Int) < 2048 from by omega), if_neg c2]
      by_cases c3 : u < 65536
      · rw [if_pos (show (u : Int) < 65536 from by omega), if_pos c3]
        simp only [List.map_cons, List.map_nil]
        rw [show (224 + (u : Int) / 4096).toNat = 224 + u / 4096 from by omega, show (128 + (u : Int) / 64 % 64).toNat = 128 + u / 64 % 64 from by omega, show (128 + (u : Int) % 64).toNat = 128 + u % 64 from by omega]
      · rw [if_neg (show ¬ (u : Int) < 65536 from by omega), if_neg c3]
        simp only [List.map_cons, List.map_nil]
        rw [show (240 + (u : Int) / 262144).toNat = 240 + u / 262144 from by omega, show (128 + (u : Int) / 4096 % 64).toNat = 128 + u / 4096 % 64 from by omega, show (128 + (u : Int) / 64 % 64).toNat = 128 + u / 64 % 64 from by omega, show (128 + (u : Int) % 64).toNat = 128 + u % 64 from by omega]
set_option maxHeartbeats 4000000 in
theorem spec_PutRune0 (n : Int) (g cap : Nat) (w : World) (hn : runeOk n) (hcap : cap ≤ 9223372036854775807) :
    Calls Tryz.prog 157 #[.slice (some ⟨g, 0, none⟩) 0 cap, .int .i64 n] w fun e w' => ∃ a' cap', e = .returned (.slice a' (encN n).length cap') ∧ AppL EByte 1 5 w' w.heap.size a' cap' (encN n) [] ∧ Below w.heap.size w w' := by
  obtain ⟨h1a, h1b⟩ := hn.1
  have h0 := AppL.empty (E := EByte) (n := 1) (e := 5) w w.heap.size (Nat.le_refl _)
  by_cases h128 : n < 128
  · have HW := Lib.hid (show wideN n = 1 from by unfold wideN; rw [if_neg (by simp [hn]), if_pos h128])
    have HE := Lib.hid (show encN n = [n] from by unfold encN; rw [if_pos h128])
    clear hn
    go_enter Tryz.func157, Tryz.ntmps157
    go_wp2_with fail
    refine (spec_WideOf n _).mono ?_
    rintro e w2 ⟨rfl, hb2⟩
    rw [HW.out]
    have hs2 := hb2.size
    have HA := Lib.hid (h0.agree EByte.elem (fun f hf => hb2.block f hf) (by simp))
    have HB2 := Lib.hid (below_step (below1 w (.cells #[] 5)) hb2 (by simp))
    have hs3 : w.heap.size ≤ w2.heap.size := HB2.out.size
    have HN := Lib.hid (HA.out.agree EByte.elem (fun f hf => (below1 w2 (.cells #[Value.int IntKind.u8 (n)] 5)).block f hf) hs3)
    clear hb2
    go_wp2_with (at_builtin; refine wpList_appL EByte.elem rfl _ _ 33 rfl (.int .u8 0) 1 Tryz.underlying33 info_Byte2 rfl w.heap.size (some ⟨w.heap.size, 0, none⟩) 0 [] [] rfl HN.out (by simp; omega) w2.heap.size 0 1 1 [n] [] rfl rfl ⟨[], [], rfl, ⟨rfl, (Is.new w2 #[.int .u8 (n)] 5).cell 0 rfl, ⟨by omega, by omega⟩⟩, rfl⟩ (by simp) (by omega) (by simp [maxLen]) (by simp) ?_; intro ar2 cr2 w3 happ3 hb3)
    go_ret
    exact ⟨ar2, cr2, by rw [HE.out]; rfl, by rw [HE.out]; exact happ3, (HB2.out.trans ((below1 w2 _).mono hs3)).trans hb3⟩
  by_cases h2048 : n < 2048
  · have HW := Lib.hid (show wideN n = 2 from by unfold wideN; rw [if_neg (by simp [hn]), if_neg h128, if_pos h2048])
    have HE := Lib.hid (show encN n = [192 + n / 64, 128 + n % 64] from by unfold encN; rw [if_neg h128, if_pos h2048])
    clear hn
    go_enter Tryz.func157, Tryz.ntmps157
    go_wp2_with fail
    refine (spec_WideOf n _).mono ?_
    rintro e w2 ⟨rfl, hb2⟩
    rw [HW.out]
    have hs2 := hb2.size
    have HA := Lib.hid (h0.agree EByte.elem (fun f hf => hb2.block f hf) (by simp))
    have HB2 := Lib.hid (below_step (below1 w (.cells #[] 5)) hb2 (by simp))
    have hs3 : w.heap.size ≤ w2.heap.size := HB2.out.size
    have HN := Lib.hid (HA.out.agree EByte.elem (fun f hf => (below1 w2 (.cells #[Value.int IntKind.u8 (192 + n / 64), Value.int IntKind.u8 (128 + n % 64)] 5)).block f hf) hs3)
    clear hb2
    go_wp2_with (at_builtin; refine wpList_appL EByte.elem rfl _ _ 33 rfl (.int .u8 0) 1 Tryz.underlying33 info_Byte2 rfl w.heap.size (some ⟨w.heap.size, 0, none⟩) 0 [] [] rfl HN.out (by simp; omega) w2.heap.size 0 2 2 [192 + n / 64, 128 + n % 64] [] rfl rfl ⟨[], [], rfl, ⟨rfl, (Is.new w2 #[.int .u8 (192 + n / 64), .int .u8 (128 + n % 64)] 5).cell 0 rfl, ⟨by omega, by omega⟩⟩, ⟨[], [], rfl, ⟨rfl, (Is.new w2 #[.int .u8 (192 + n / 64), .int .u8 (128 + n % 64)] 5).cell 1 rfl, ⟨by omega, by omega⟩⟩, rfl⟩⟩ (by simp) (by omega) (by simp [maxLen]) (by simp) ?_; intro ar2 cr2 w3 happ3 hb3)
    go_ret
    exact ⟨ar2, cr2, by rw [HE.out]; rfl, by rw [HE.out]; exact happ3, (HB2.out.trans ((below1 w2 _).mono hs3)).trans hb3⟩
  by_cases h65536 : n < 65536
  · have HW := Lib.hid (show wideN n = 3 from by unfold wideN; rw [if_neg (by simp [hn]), if_neg h128, if_neg h2048, if_pos h65536])
    have HE := Lib.hid (show encN n = [224 + n / 4096, 128 + n / 64 % 64, 128 + n % 64] from by unfold encN; rw [if_neg h128, if_neg h2048, if_pos h65536])
    clear hn
    go_enter Tryz.func157, Tryz.ntmps157
    go_wp2_with fail
    refine (spec_WideOf n _).mono ?_
    rintro e w2 ⟨rfl, hb2⟩
    rw [HW.out]
    have hs2 := hb2.size
    have HA := Lib.hid (h0.agree EByte.elem (fun f hf => hb2.block f hf) (by simp))
    have HB2 := Lib.hid (below_step (below1 w (.cells #[] 5)) hb2 (by simp))
    have hs3 : w.heap.size ≤ w2.heap.size := HB2.out.size
    have HN := Lib.hid (HA.out.agree EByte.elem (fun f hf => (below1 w2 (.cells #[Value.int IntKind.u8 (224 + n / 4096), Value.int IntKind.u8 (128 + n / 64 % 64), Value.int IntKind.u8 (128 + n % 64)] 5)).block f hf) hs3)
    clear hb2
    go_wp2_with (at_builtin; refine wpList_appL EByte.elem rfl _ _ 33 rfl (.int .u8 0) 1 Tryz.underlying33 info_Byte2 rfl w.heap.size (some ⟨w.heap.size, 0, none⟩) 0 [] [] rfl HN.out (by simp; omega) w2.heap.size 0 3 3 [224 + n / 4096, 128 + n / 64 % 64, 128 + n % 64] [] rfl rfl ⟨[], [], rfl, ⟨rfl, (Is.new w2 #[.int .u8 (224 + n / 4096), .int .u8 (128 + n / 64 % 64), .int .u8 (128 + n % 64)] 5).cell 0 rfl, ⟨by omega, by omega⟩⟩, ⟨[], [], rfl, ⟨rfl, (Is.new w2 #[.int .u8 (224 + n / 4096), .int .u8 (128 + n / 64 % 64), .int .u8 (128 + n % 64)] 5).cell 1 rfl, ⟨by omega, by omega⟩⟩, ⟨[], [], rfl, ⟨rfl, (Is.new w2 #[.int .u8 (224 + n / 4096), .int .u8 (128 + n / 64 % 64), .int .u8 (128 + n % 64)] 5).cell 2 rfl, ⟨by omega, by omega⟩⟩, rfl⟩⟩⟩ (by simp) (by omega) (by simp [maxLen]) (by simp) ?_; intro ar2 cr2 w3 happ3 hb3)
    go_ret
    exact ⟨ar2, cr2, by rw [HE.out]; rfl, by rw [HE.out]; exact happ3, (HB2.out.trans ((below1 w2 _).mono hs3)).trans hb3⟩
  · have HW := Lib.hid (show wideN n = 4 from by unfold wideN; rw [if_neg (by simp [hn]), if_neg h128, if_neg h2048, if_neg h65536])
    have HE := Lib.hid (show encN n = [240 + n / 262144, 128 + n / 4096 % 64, 128 + n / 64 % 64, 128 + n % 64] from by unfold encN; rw [if_neg h128, if_neg h2048, if_neg h65536])
    clear hn
    go_enter Tryz.func157, Tryz.ntmps157
    go_wp2_with fail
    refine (spec_WideOf n _).mono ?_
    rintro e w2 ⟨rfl, hb2⟩
    rw [HW.out]
    have hs2 := hb2.size
    have HA := Lib.hid (h0.agree EByte.elem (fun f hf => hb2.block f hf) (by simp))
    have HB2 := Lib.hid (below_step (below1 w (.cells #[] 5)) hb2 (by simp))
    have hs3 : w.heap.size ≤ w2.heap.size := HB2.out.size
    have HN := Lib.hid (HA.out.agree EByte.elem (fun f hf => (below1 w2 (.cells #[Value.int IntKind.u8 (240 + n / 262144), Value.int IntKind.u8 (128 + n / 4096 % 64), Value.int IntKind.u8 (128 + n / 64 % 64), Value.int IntKind.u8 (128 + n % 64)] 5)).block f hf) hs3)
    clear hb2
    go_wp2_with (at_builtin; refine wpList_appL EByte.elem rfl _ _ 33 rfl (.int .u8 0) 1 Tryz.underlying33 info_Byte2 rfl w.heap.size (some ⟨w.heap.size, 0, none⟩) 0 [] [] rfl HN.out (by simp; omega) w2.heap.size 0 4 4 [240 + n / 262144, 128 + n / 4096 % 64, 128 + n / 64 % 64, 128 + n % 64] [] rfl rfl ⟨[], [], rfl, ⟨rfl, (Is.new w2 #[.int .u8 (240 + n / 262144), .int .u8 (128 + n / 4096 % 64), .int .u8 (128 + n / 64 % 64), .int .u8 (128 + n % 64)] 5).cell 0 rfl, ⟨by omega, by omega⟩⟩, ⟨[], [], rfl, ⟨rfl, (Is.new w2 #[.int .u8 (240 + n / 262144), .int .u8 (128 + n / 4096 % 64), .int .u8 (128 + n / 64 % 64), .int .u8 (128 + n % 64)] 5).cell 1 rfl, ⟨by omega, by omega⟩⟩, ⟨[], [], rfl, ⟨rfl, (Is.new w2 #[.int .u8 (240 + n / 262144), .int .u8 (128 + n / 4096 % 64), .int .u8 (128 + n / 64 % 64), .int .u8 (128 + n % 64)] 5).cell 2 rfl, ⟨by omega, by omega⟩⟩, ⟨[], [], rfl, ⟨rfl, (Is.new w2 #[.int .u8 (240 + n / 262144), .int .u8 (128 + n / 4096 % 64), .int .u8 (128 + n / 64 % 64), .int .u8 (128 + n % 64)] 5).cell 3 rfl, ⟨by omega, by omega⟩⟩, rfl⟩⟩⟩⟩ (by simp) (by omega) (by simp [maxLen]) (by simp) ?_; intro ar2 cr2 w3 happ3 hb3)
    go_ret
    exact ⟨ar2, cr2, by rw [HE.out]; rfl, by rw [HE.out]; exact happ3, (HB2.out.trans ((below1 w2 _).mono hs3)).trans hb3⟩
set_option maxHeartbeats 2000000 in
theorem spec_FromRune (n : Int) (g cap : Nat) (w : World) (hn : runeOk n) (hcap : 1 ≤ cap) (hcap2 : cap ≤ 9223372036854775807) (hg : g < w.heap.size) (hc : w.cell? ⟨g, 0, none⟩ = some (.int .i64 n)) :
    Calls Tryz.prog 139 #[.slice (some ⟨g, 0, none⟩) 1 cap] w fun e w' => e = .returned (.string (Utf8.encode n)) ∧ Below w.heap.size w w' := by
  have HE := Lib.hid (encN_str n hn)
  have HN := Lib.hid hn
  have hlen : (encN n).length ≤ 4 := by unfold encN; split; simp; split; simp; split <;> simp
  go_enter Tryz.func139, Tryz.ntmps139
  go_wp2_with fail
  go_loopw [3, 4] (fun q i wr => Below w.heap.size w wr ∧ ((i = .int .i64 0 ∧ q = .slice (some ⟨w.heap.size, 0, none⟩) 0 0) ∨ (i = .int .i64 1 ∧ ∃ a' cap', q = .slice a' (encN n).length cap' ∧ ∃ rlo, AppL EByte 1 5 wr rlo a' cap' (encN n) []))) (fun _ i _ => 1 - (intOf i).toNat)
  case atStart => exact ⟨below1 _ _, Or.inl ⟨rfl, rfl⟩⟩
  case round =>
    obtain ⟨hb, ⟨rfl, rfl⟩ | ⟨rfl, a', cap', rfl, rlo, happ⟩⟩ := hrel
    · have hbs := hb.size
      have hc2 := (hb.cell (p := ⟨g, 0, none⟩) hg).trans hc
      have hg2 : g < wr.heap.size := by omega
      go_wp2_with fail
      refine (spec_PutRune0 n w.heap.size 0 _ HN.out (by omega)).mono ?_
      rintro e w2 ⟨a', cap', rfl, happ, hb2⟩
      have HA := Lib.hid happ; clear happ
      go_wp2_with fail
      go_roundw
      case rel => exact ⟨hb.trans (hb2.mono hbs), Or.inr ⟨rfl, a', cap', rfl, _, HA.out⟩⟩
      case measure => simp [intOf]
    · have hcv := conv_bytes wr rlo a' cap' _ [] happ
      rw [HE.out] at hcv
      clear happ
      go_wp2_with fail
      go_ret
      exact ⟨rfl, hb⟩
end Go.Proofs.YthpmfkkmhbbloaaGreatDoor
namespace Go.Proofs.YthpmfkkmhbbloaaGreatDoor
open Go.ChangeShapes Go.WideShapes Go.ChangeAt Go.RowKit Go.Joins
set_option linter.unusedVariables false
set_option maxRecDepth 100000
/-- A character as it stands in quotes. -/
def escT (n : Int) : ByteArray :=
  if ¬ runeOk n then ⟨#[]⟩ else if n = 34 then ⟨#[92, 34]⟩ else if n = 92 then ⟨#[92, 92]⟩ else if n = 8 then ⟨#[92, 98]⟩ else if n = 9 then ⟨#[92, 116]⟩ else if n = 10 then ⟨#[92, 110]⟩ else if n = 12 then ⟨#[92, 102]⟩ else if n = 13 then ⟨#[92, 114]⟩ else if n < 32 then ⟨#[92, 117, 48, 48]⟩ ++ hexT (Utf8.encode n) else Utf8.encode n
theorem escT_no (n : Int) (h : ¬ runeOk n) : escT n = ⟨#[]⟩ := if_pos h
theorem escT_34 : escT 34 = ⟨#[92, 34]⟩ := rfl
theorem escT_92 : escT 92 = ⟨#[92, 92]⟩ := rfl
theorem escT_8 : escT 8 = ⟨#[92, 98]⟩ := rfl
theorem escT_9 : escT 9 = ⟨#[92, 116]⟩ := rfl
theorem escT_10 : escT 10 = ⟨#[92, 110]⟩ := rfl
theorem escT_12 : escT 12 = ⟨#[92, 102]⟩ := rfl
theorem escT_13 : escT 13 = ⟨#[92, 114]⟩ := rfl
theorem escT_low (n : Int) (h : runeOk n) (hn : n ≠ 34 ∧ n ≠ 92 ∧ n ≠ 8 ∧ n ≠ 9 ∧ n ≠ 10 ∧ n ≠ 12 ∧ n ≠ 13) (h2 : n < 32) : escT n = ⟨#[92, 117, 48, 48]⟩ ++ hexT (Utf8.encode n) := by
  unfold escT; rw [if_neg (by simp [h]), if_neg hn.1, if_neg hn.2.1, if_neg hn.2.2.1, if_neg hn.2.2.2.1, if_neg hn.2.2.2.2.1, if_neg hn.2.2.2.2.2.1, if_neg hn.2.2.2.2.2.2, if_pos h2]
theorem escT_high (n : Int) (h : runeOk n) (hn : n ≠ 34 ∧ n ≠ 92 ∧ n ≠ 8 ∧ n ≠ 9 ∧ n ≠ 10 ∧ n ≠ 12 ∧ n ≠ 13) (h2 : ¬ n < 32) : escT n = Utf8.encode n := by
  unfold escT; rw [if_neg (by simp [h]), if_neg hn.1, if_neg hn.2.1, if_neg hn.2.2.1, if_neg hn.2.2.2.1, if_neg hn.2.2.2.2.1, if_neg hn.2.2.2.2.2.1, if_neg hn.2.2.2.2.2.2, if_neg h2]
theorem enc_low (n : Int) (h0 : 0 ≤ n) (h : n < 128) : strOfNums [n] = Utf8.encode n := by
  have := encN_str n ⟨⟨h0, by omega⟩, by omega⟩
  unfold encN at this; rw [if_pos h] at this; exact this
theorem enc_size (n : Int) : (Utf8.encode n).size ≤ 4 := by
  unfold Utf8.encode; simp only []; repeat' split
  all_goals first | decide | (simp [ByteArray.size])
theorem hexT_size (s : ByteArray) : (hexT s).size = 2 * s.size := by
  unfold hexT; rw [strOfNums_size, hexL_len, ← Lib.size_eq]
theorem esc_index : ∀ k : Fin 32, Lib.indexByte [8, 9, 10, 12, 13] (k.val.toUInt8) = if k.val = 8 then 0 else if k.val = 9 then 1 else if k.val = 10 then 2 else if k.val = 12 then 3 else if k.val = 13 then 4 else -1 := by decide
theorem runeOk_low (n : Int) (h0 : 0 ≤ n) (h : n < 128) : runeOk n := ⟨⟨h0, by omega⟩, by omega⟩
theorem impl_RuneOk (n : Int) (w : World) : Calls Tryz.prog 144 #[.int .i64 n] w fun e w' => e = .returned (.bool (decide (runeOk n))) ∧ Below w.heap.size w w' := by
  have hacc := Below.refl w.heap.size w
  by_cases h1 : 0 ≤ n ∧ n ≤ 1114111
  · have HA := Lib.hid (show decide (0 ≤ n ∧ n ≤ 1114111) = true from decide_eq_true h1)
    by_cases h2 : 55296 ≤ n ∧ n ≤ 57343
    · have HD := Lib.hid (show decide (runeOk n) = false from decide_eq_false (fun h => h.2 h2))
      have HB := Lib.hid (show decide (55296 ≤ n ∧ n ≤ 57343) = true from decide_eq_true h2)
      rw [HD.out]
      go_enter Tryz.func144, Tryz.ntmps144
      go_wp2_with (go_at_call 79; refine (impl_within _ _ _ _).mono ?_; rintro e v ⟨rfl, hb⟩; replace hacc := below_step hacc hb hacc.size; first | rw [HA.out] | rw [HB.out])
      go_ret
      exact ⟨rfl, hacc⟩
    · have HD := Lib.hid (show decide (runeOk n) = true from decide_eq_true ⟨h1, h2⟩)
      have HB := Lib.hid (show decide (55296 ≤ n ∧ n ≤ 57343) = false from decide_eq_false h2)
      rw [HD.out]
      go_enter Tryz.func144, Tryz.ntmps144
      go_wp2_with (go_at_call 79; refine (impl_within _ _ _ _).mono ?_; rintro e v ⟨rfl, hb⟩; replace hacc := below_step hacc hb hacc.size; first | rw [HA.out] | rw [HB.out])
      go_ret
      exact ⟨rfl, hacc⟩
  · have HD := Lib.hid (show decide (runeOk n) = false from decide_eq_false (fun h => h1 h.1))
    have HA := Lib.hid (show decide (0 ≤ n ∧ n ≤ 1114111) = false from decide_eq_false h1)
    rw [HD.out]
    go_enter Tryz.func144, Tryz.ntmps144
    go_wp2_with (go_at_call 79; refine (impl_within _ _ _ _).mono ?_; rintro e v ⟨rfl, hb⟩; replace hacc := below_step hacc hb hacc.size; first | rw [HA.out])
    go_ret
    exact ⟨rfl, hacc⟩
set_option maxHeartbeats 4000000 in
theorem spec_EscapeOf (n : Int) (w : World) (hi : I64 n) : Calls Tryz.prog 113 #[.int .i64 n] w fun e w' => e = .returned (.string (escT n)) ∧ Below w.heap.size w w' := by
  obtain ⟨hi0, hi1⟩ := hi
  by_cases hr : runeOk n
  · have HR := Lib.hid (show decide (runeOk n) = true from decide_eq_true hr)
    obtain ⟨hr0, hr1⟩ := hr.1
    by_cases hsp : n = 34 ∨ n = 92 ∨ n = 8 ∨ n = 9 ∨ n = 10 ∨ n = 12 ∨ n = 13
    · obtain rfl | rfl | rfl | rfl | rfl | rfl | rfl := hsp
      all_goals
        go_enter Tryz.func113, Tryz.ntmps113
        go_wp2_with (go_at_call 137; refine (spec_RuneOk _ _).mono ?_; rintro e w2 ⟨rfl, hb2⟩; rw [HR.out])
        go_ret
        exact ⟨rfl, hb2⟩
    · have hn : n ≠ 34 ∧ n ≠ 92 ∧ n ≠ 8 ∧ n ≠ 9 ∧ n ≠ 10 ∧ n ≠ 12 ∧ n ≠ 13 := by omega
      by_cases h32 : n < 32
      · have HE := Lib.hid (escT_low n hr hn h32)
        have HL := Lib.hid (enc_low n hr0 (by omega))
        have hz := hexT_size (Utf8.encode n)
        have hz2 := enc_size n
        have hz3 : (⟨#[92, 117, 48, 48]⟩ : ByteArray).size = 4 := rfl
        clear hr hsp
        go_enter Tryz.func113, Tryz.ntmps113
        go_wp2_with fail
        refine (spec_RuneOk _ _).mono ?_
        rintro e w2 ⟨rfl, hb2⟩
        rw [HR.out]
        have hcv := run_convert_bytes_arg (P := Tryz.prog) (w2.alloc (.cells #[.int .u8 n] 5)) 33 5 Tryz.underlying33 Tryz.underlying5 w2.heap.size 0 1 1 [n] rfl (by intro i hi; (obtain rfl : i = 0 := (by omega)); exact (Is.new w2 _ _).cell 0 rfl) 9 Tryz.underlying9
        rw [HL.out] at hcv
        have HB3 := Lib.hid (hb2.trans ((below1 w2 (.cells #[.int .u8 n] 5)).mono hb2.size))
        clear hb2
        go_wp2_with fail
        refine (spec_HexText _ _ (by omega)).mono ?_
        rintro e w3 ⟨rfl, hb3⟩
        go_wp2_with fail
        go_ret
        exact ⟨ret_s HE.out.symm, HB3.out.trans (hb3.mono HB3.out.size)⟩
      · have HE := Lib.hid (escT_high n hr hn h32)
        have HRO := Lib.hid hr
        clear hr hsp
        go_enter Tryz.func113, Tryz.ntmps113
        go_wp2_with fail
        refine (spec_RuneOk _ _).mono ?_
        rintro e w2 ⟨rfl, hb2⟩
        rw [HR.out]
        have hc0 := (Is.new w2 #[.int .i64 n] 3).cell 0 rfl
        have HB3 := Lib.hid (hb2.trans ((below1 w2 (.cells #[.int .i64 n] 3)).mono hb2.size))
        have HC := Lib.hid hc0
        clear hb2 hc0
        go_wp2_with fail
        refine (spec_FromRune n w2.heap.size 1 _ HRO.out (by omega) (by omega) (by simp) HC.out).mono ?_
        rintro e w3 ⟨rfl, hb3⟩
        go_wp2_with fail
        go_ret
        exact ⟨ret_s HE.out.symm, HB3.out.trans (hb3.mono HB3.out.size)⟩
  · have HR := Lib.hid (show decide (runeOk n) = false from decide_eq_false hr)
    have HE := Lib.hid (escT_no n hr)
    clear hr
    go_enter Tryz.func113, Tryz.ntmps113
    go_wp2_with (go_at_call 137; refine (spec_RuneOk _ _).mono ?_; rintro e w2 ⟨rfl, hb2⟩; rw [HR.out])
    go_ret
    exact ⟨ret_s HE.out.symm, hb2⟩
set_option maxHeartbeats 8000000 in
theorem impl_EscapeOf (n : Int) (w : World) (hi : I64 n) : Calls Tryz.prog 121 #[.int .i64 n] w fun e w' => e = .returned (.string (escT n)) ∧ Below w.heap.size w w' := by
  obtain ⟨hi0, hi1⟩ := hi
  by_cases hr : runeOk n
  · have HR := Lib.hid (show decide (runeOk n) = true from decide_eq_true hr)
    obtain ⟨hr0, hr1⟩ := hr.1
    by_cases hq : n = 34 ∨ n = 92
    · obtain rfl | rfl := hq
      all_goals
        go_enter Tryz.func121, Tryz.ntmps121
        go_wp2_with (go_at_call 144; refine (impl_RuneOk _ _).mono ?_; rintro e w2 ⟨rfl, hb2⟩; rw [HR.out])
        go_ret
        exact ⟨rfl, hb2⟩
    by_cases h32 : n < 32
    · have HI0 := esc_index ⟨n.toNat, by omega⟩
      simp only at HI0
      by_cases hsp : n = 8 ∨ n = 9 ∨ n = 10 ∨ n = 12 ∨ n = 13
      · obtain rfl | rfl | rfl | rfl | rfl := hsp
        · have HI := Lib.hid (show Lib.indexByte (⟨#[8, 9, 10, 12, 13]⟩ : ByteArray).data.toList ((8 : Int).toNat.toUInt8) = 0 from by rfl)
          clear HI0
          go_enter Tryz.func121, Tryz.ntmps121
          go_wp2_with (first | (go_at_call 144; refine (impl_RuneOk _ _).mono ?_; rintro e w2 ⟨rfl, hb2⟩; rw [HR.out]) | (go_at_call 145; refine (Tryz.strings_IndexByte _ _ _).mono ?_; rintro e w4 ⟨rfl, rfl⟩; rw [HI.out]))
          go_ret
          exact ⟨rfl, hb2⟩
        · have HI := Lib.hid (show Lib.indexByte (⟨#[8, 9, 10, 12, 13]⟩ : ByteArray).data.toList ((9 : Int).toNat.toUInt8) = 1 from by rfl)
          clear HI0
          go_enter Tryz.func121, Tryz.ntmps121
          go_wp2_with (first | (go_at_call 144; refine (impl_RuneOk _ _).mono ?_; rintro e w2 ⟨rfl, hb2⟩; rw [HR.out]) | (go_at_call 145; refine (Tryz.strings_IndexByte _ _ _).mono ?_; rintro e w4 ⟨rfl, rfl⟩; rw [HI.out]))
          go_ret
          exact ⟨rfl, hb2⟩
        · have HI := Lib.hid (show Lib.indexByte (⟨#[8, 9, 10, 12, 13]⟩ : ByteArray).data.toList ((10 : Int).toNat.toUInt8) = 2 from by rfl)
          clear HI0
          go_enter Tryz.func121, Tryz.ntmps121
          go_wp2_with (first | (go_at_call 144; refine (impl_RuneOk _ _).mono ?_; rintro e w2 ⟨rfl, hb2⟩; rw [HR.out]) | (go_at_call 145; refine (Tryz.strings_IndexByte _ _ _).mono ?_; rintro e w4 ⟨rfl, rfl⟩; rw [HI.out]))
          go_ret
          exact ⟨rfl, hb2⟩
        · have HI := Lib.hid (show Lib.indexByte (⟨#[8, 9, 10, 12, 13]⟩ : ByteArray).data.toList ((12 : Int).toNat.toUInt8) = 3 from by rfl)
          clear HI0
          go_enter Tryz.func121, Tryz.ntmps121
          go_wp2_with (first | (go_at_call 144; refine (impl_RuneOk _ _).mono ?_; rintro e w2 ⟨rfl, hb2⟩; rw [HR.out]) | (go_at_call 145; refine (Tryz.strings_IndexByte _ _ _).mono ?_; rintro e w4 ⟨rfl, rfl⟩; rw [HI.out]))
          go_ret
          exact ⟨rfl, hb2⟩
        · have HI := Lib.hid (show Lib.indexByte (⟨#[8, 9, 10, 12, 13]⟩ : ByteArray).data.toList ((13 : Int).toNat.toUInt8) = 4 from by rfl)
          clear HI0
          go_enter Tryz.func121, Tryz.ntmps121
          go_wp2_with (first | (go_at_call 144; refine (impl_RuneOk _ _).mono ?_; rintro e w2 ⟨rfl, hb2⟩; rw [HR.out]) | (go_at_call 145; refine (Tryz.strings_IndexByte _ _ _).mono ?_; rintro e w4 ⟨rfl, rfl⟩; rw [HI.out]))
          go_ret
          exact ⟨rfl, hb2⟩
      · have hn : n ≠ 34 ∧ n ≠ 92 ∧ n ≠ 8 ∧ n ≠ 9 ∧ n ≠ 10 ∧ n ≠ 12 ∧ n ≠ 13 := by omega
        have HE := Lib.hid (escT_low n hr hn h32)
        have HI := Lib.hid (show Lib.indexByte (⟨#[8, 9, 10, 12, 13]⟩ : ByteArray).data.toList (n.toNat.toUInt8) = -1 from by
          refine HI0.trans ?_
          rw [if_neg (by omega), if_neg (by omega), if_neg (by omega), if_neg (by omega), if_neg (by omega)])
        have hz := hexT_size (Utf8.encode n)
        have hz2 := enc_size n
        have hz3 : (⟨#[92, 117, 48, 48]⟩ : ByteArray).size = 4 := rfl
        have e34 : (n == 34) = false := beq_eq_false_iff_ne.2 hn.1
        have e92 : (n == 92) = false := beq_eq_false_iff_ne.2 hn.2.1
        clear hr hsp HI0 hq
        go_enter Tryz.func121, Tryz.ntmps121
        go_wp2_with (first | (go_at_call 144; refine (impl_RuneOk _ _).mono ?_; rintro e w2 ⟨rfl, hb2⟩; rw [HR.out]) | (go_at_call 145; refine (Tryz.strings_IndexByte _ _ _).mono ?_; rintro e w4 ⟨rfl, rfl⟩; rw [HI.out]))
        refine (impl_HexText _ _ (by omega)).mono ?_
        rintro e w3 ⟨rfl, hb3⟩
        go_wp2_with fail
        go_ret
        exact ⟨ret_s HE.out.symm, hb2.trans (hb3.mono hb2.size)⟩
    · have hn : n ≠ 34 ∧ n ≠ 92 ∧ n ≠ 8 ∧ n ≠ 9 ∧ n ≠ 10 ∧ n ≠ 12 ∧ n ≠ 13 := by omega
      have HE := Lib.hid (escT_high n hr hn h32)
      have e34 : (n == 34) = false := beq_eq_false_iff_ne.2 hn.1
      have e92 : (n == 92) = false := beq_eq_false_iff_ne.2 hn.2.1
      clear hr hq
      go_enter Tryz.func121, Tryz.ntmps121
      go_wp2_with (go_at_call 144; refine (impl_RuneOk _ _).mono ?_; rintro e w2 ⟨rfl, hb2⟩; rw [HR.out])
      go_ret
      exact ⟨ret_s HE.out.symm, hb2⟩
  · have HR := Lib.hid (show decide (runeOk n) = false from decide_eq_false hr)
    have HE := Lib.hid (escT_no n hr)
    clear hr
    go_enter Tryz.func121, Tryz.ntmps121
    go_wp2_with (go_at_call 144; refine (impl_RuneOk _ _).mono ?_; rintro e w2 ⟨rfl, hb2⟩; rw [HR.out])
    go_ret
    exact ⟨ret_s HE.out.symm, hb2⟩
end Go.Proofs.YthpmfkkmhbbloaaGreatDoor
namespace Go.Proofs.YthpmfkkmhbbloaaGreatDoor
open Go.ChangeShapes Go.WideShapes Go.ChangeAt Go.RowKit Go.Joins
set_option linter.unusedVariables false
set_option maxRecDepth 100000
/-- The characters of a text. -/
def runesG : Nat → List UInt8 → List Int
  | 0, _ => []
  | f + 1, l => if l = [] then [] else ((grL l).1 : Int) :: runesG f (l.drop (grL l).2)
def runesT (s : ByteArray) : List Int := runesG s.size s.data.toList
theorem runesG_nil (f : Nat) : runesG f [] = [] := by cases f <;> simp [runesG]
theorem runesG_cons (f : Nat) (l : List UInt8) (h : l ≠ []) : runesG (f + 1) l = ((grL l).1 : Int) :: runesG f (l.drop (grL l).2) := by rw [runesG, if_neg h]
theorem grW_small (n b0 b1 b2 b3 : Nat) (h1 : b1 < 256) (h2 : b2 < 256) (h3 : b3 < 256) : (grW n b0 b1 b2 b3).1 ≤ 2097151 := by
  unfold grW
  repeat' split
  all_goals simp only [] <;> omega
theorem grL_small (l : List UInt8) : (grL l).1 ≤ 2097151 := grW_small _ _ _ _ _ (UInt8.toNat_lt _) (UInt8.toNat_lt _) (UInt8.toNat_lt _)
theorem info_Int2 : (Tryz.prog.info? 3).map (fun i => (i.zero, i.size, i.bytes)) = some (some (.int .i64 0), 1, 8) := by kernel_rfl
set_option maxHeartbeats 4000000 in
theorem spec_RunesOf (s : ByteArray) (w : World) (hs : s.size ≤ 1048576) (hv : Lib.validD s.data.toList = true) :
    Calls Tryz.prog 112 #[.string s] w fun e w' => ∃ a' cap', e = .returned (.slice a' (runesT s).length cap') ∧ Rd EInt 1 w' w'.heap.size a' cap' (runesT s) ∧ Below w.heap.size w w' := by
  have HV0 := Lib.hid hv; clear hv
  have h0 := AppL.empty (E := EInt) (n := 1) (e := 3) w w.heap.size (Nat.le_refl _)
  go_enter Tryz.func112, Tryz.ntmps112
  go_wp2_with fail
  refine (spec_TextOk s _ (by omega)).mono ?_
  rintro e w1 ⟨rfl, hb1⟩
  rw [HV0.out]
  have hs1 := hb1.size
  have HB1 := Lib.hid (below_step (below1 w (.cells #[] 3)) hb1 (by simp))
  have HA1 := Lib.hid (h0.agree EInt.elem (fun f hf => hb1.block f hf) (by simp))
  have hs1' : w.heap.size < w1.heap.size := by simp at hs1; omega
  clear hb1 h0 hs1
  have hcv := Lib.run_convert_string_bytes (P := Tryz.prog) w1 9 33 5 s Tryz.underlying9 Tryz.underlying33 Tryz.underlying5
  have hge := grownCap_ge w1 s.size 0 5
  have hle := grownCap_le_maxLen w1 s.size 0 5 (by unfold maxLen; omega)
  unfold maxLen at hle
  generalize grownCap w1 s.size 0 5 = cap at hcv hge hle
  have HB := Lib.hid (bytesWorld_below w1 5 s)
  have hsz := Lib.bytesWorld_size w1 5 s
  have HC := Lib.hid (fun j (hj : j < s.size) => Lib.bytesWorld_cell w1 5 s j hj)
  generalize Lib.bytesWorld w1 5 s = W1 at hcv HB hsz HC
  have HA2 := Lib.hid (HA1.out.agree EInt.elem (fun f hf => HB.out.block f hf) (by omega))
  have hsW : w1.heap.size < W1.heap.size := by omega
  have HBW := Lib.hid (HB1.out.trans (HB.out.mono (by omega)))
  have HLEN := Lib.hid (Lib.size_eq s)
  go_wp2_with fail
  go_loopw [3, 5, 20, 6, 7, 8] (fun q i _ _ _ _ wr => ∃ (j f : Nat) (ar : Option Addr) (cr : Nat) (L : List Int), j ≤ s.size ∧ i = .int .i64 j ∧ q = .slice ar L.length cr ∧ AppL EInt 1 3 wr w.heap.size ar cr L [] ∧ (∀ k, (Value.slice ar L.length cr).ownBlock = some k → k ≠ w1.heap.size) ∧ L.length ≤ j ∧ s.size - j ≤ f ∧ Hid (runesT s = L ++ runesG f (s.data.toList.drop j)) ∧ Hid (Lib.validD (s.data.toList.drop j) = true) ∧ wr.heap[w1.heap.size]? = W1.heap[w1.heap.size]? ∧ Below w.heap.size w wr ∧ W1.heap.size ≤ wr.heap.size) (fun _ i _ _ _ _ _ => s.size - (intOf i).toNat)
  case atStart => exact ⟨0, s.size, _, _, [], Nat.zero_le _, rfl, rfl, HA2.out, fun k hk => by simp [Value.ownBlock] at hk; omega, by simp, by omega, rfl, by rw [List.drop_zero]; exact HV0.out, rfl, HBW.out, Nat.le_refl _⟩
  case round =>
    obtain ⟨j, f, ar, cr, L, hj, rfl, rfl, happ, hown, hLj, hf, HR, HVJ, hblk, hb, hsw⟩ := hrel
    have HA := Lib.hid happ; clear happ
    have HO := Lib.hid hown; clear hown
    by_cases hlt : j < s.size
    · obtain ⟨f', rfl⟩ : ∃ f', f = f' + 1 := ⟨f - 1, by omega⟩
      have hne : s.data.toList.drop j ≠ [] := by
        intro e
        have := congrArg List.length e
        simp only [List.length_drop, List.length_nil] at this; have := HLEN.out; omega
      have HG := Lib.hid (validD_gr _ hne)
      have HAt := Lib.hid (grL_at s.data.toList j)
      have HL := Lib.hid (grL_cases _ hne)
      have hz : (grL (s.data.toList.drop j)).2 ≠ 0 := by
        intro h
        have h1 := HG.out
        rw [if_pos h, HVJ.out] at h1
        cases h1
      have cell : ∀ k, k < s.size → wr.cell? ⟨w1.heap.size, 0 + k, none⟩ = some (.int .u8 (s.data.toList.getD k 0).toNat) := fun k hk => by rw [Nat.zero_add]; exact (World.cell?_of_block (w := W1) (a := ⟨w1.heap.size, k, none⟩) hblk).trans (HC.out k hk)
      have HK := Lib.hid cell; clear cell
      have HBL := Lib.hid hblk; clear hblk
      go_wp2_with fail
      refine (spec_GetRune s.size w1.heap.size 0 cap j (s.data.toList.getD j 0).toNat (s.data.toList.getD (j + 1) 0).toNat (s.data.toList.getD (j + 2) 0).toNat (s.data.toList.getD (j + 3) 0).toNat wr hlt hge hle (by omega) (UInt8.toNat_lt _) (UInt8.toNat_lt _) (UInt8.toNat_lt _) (UInt8.toNat_lt _) (HK.out j hlt) (fun h => HK.out _ h) (fun h => HK.out _ h) (fun h => HK.out _ h)).mono ?_
      rw [show s.size - j = s.data.toList.length - j from by rw [HLEN.out], ← HAt.out]
      rintro e w3 ⟨rfl, hb3⟩
      have hd : decide ((grL (s.data.toList.drop j)).2 ≠ 0) = true := decide_eq_true hz
      have hk : (grL (s.data.toList.drop j)).2 ≤ s.size - j := by
        rcases HL.out with h | h
        · exact absurd h.1 hz
        · have := h.2.2.1; simp only [List.length_drop] at this; have := HLEN.out; omega
      have hif : (if (grL (s.data.toList.drop j)).2 = 0 then 0 else j + (grL (s.data.toList.drop j)).2) = j + (grL (s.data.toList.drop j)).2 := if_neg hz
      have HRN := Lib.hid (show runesT s = (L ++ [((grL (s.data.toList.drop j)).1 : Int)]) ++ runesG f' (s.data.toList.drop (j + (grL (s.data.toList.drop j)).2)) from by
        rw [HR.out, runesG_cons f' _ hne, List.drop_drop, List.append_assoc]; rfl)
      have HVN := Lib.hid (show Lib.validD (s.data.toList.drop (j + (grL (s.data.toList.drop j)).2)) = true from by
        have h1 := HG.out
        rw [if_neg hz, HVJ.out, List.drop_drop] at h1
        exact h1.symm)
      have hsm := grL_small (s.data.toList.drop j)
      rw [grV, hd, hif]
      have HZ := Lib.hid hz
      have HA3 := Lib.hid (HA.out.agree EInt.elem (fun f hf => hb3.block f hf) (by omega))
      have HBL3 := Lib.hid ((hb3.block w1.heap.size (by omega)).trans HBL.out)
      have hs3 := hb3.size
      have HB3 := Lib.hid (hb.trans (hb3.mono hb.size))
      have hO1 := HO.out
      have HO3 := Lib.hid (fun k hk => (HA3.out.row k hk).2)
      generalize grL (s.data.toList.drop j) = g at *
      clear HG HL hif hd hb3 hne HAt
      have HN := Lib.hid (HA3.out.agree EInt.elem (fun f hf => (below1 w3 (.cells #[.int .i64 (g.1 : Int)] 3)).block f hf) (by have := HB3.out.size; omega))
      have hL63 : L.length + 1 ≤ 1048577 := by omega
      clear hO1
      go_wp2_with (at_builtin; refine wpList_appX EInt.elem rfl _ _ 86 rfl (.int .i64 0) 8 Tryz.underlying86 info_Int2 rfl w.heap.size ar cr L [] rfl HN.out (by have := HB3.out.size; simp; omega) w3.heap.size 0 1 1 [(g.1 : Int)] [] rfl rfl ⟨[], [], rfl, ⟨rfl, (Is.new w3 #[.int .i64 (g.1 : Int)] 3).cell 0 rfl, ⟨by omega, by omega⟩⟩, rfl⟩ (by simp) (by omega) (by unfold maxLen; omega) (by omega) ?_; intro ar2 cr2 w4 happ4 hb4 hout4 hown4 hsz4)
      go_roundw
      case rel => exact ⟨j + g.2, f', ar2, cr2, L ++ [(g.1 : Int)], by omega, by go_num, by rw [List.length_append]; rfl, happ4, fun k hk => by
          rcases hown4 k hk with h | h
          · exact HO.out k h
          · simp at h; omega, by rw [List.length_append]; simp; have := HZ.out; omega, by have := HZ.out; omega, HRN.out, HVN.out, (hout4 w1.heap.size (by simp; omega) (fun k hk => fun e => HO.out k hk e.symm)).trans (((below1 w3 _).block w1.heap.size (by omega)).trans HBL3.out), (HB3.out.trans ((below1 w3 _).mono HB3.out.size)).trans hb4, by simp at hsz4; omega⟩
      case measure => simp [intOf]; have := HZ.out; omega
    · have hjj : s.size = j := by omega
      have HD := Lib.hid (show runesT s = L from by rw [HR.out, List.drop_eq_nil_of_le (by have := HLEN.out; omega), runesG_nil, List.append_nil])
      go_wp2_with fail
      go_ret
      exact ⟨ar, cr, by rw [HD.out]; rfl, by rw [HD.out]; exact HA.out.read (by omega), hb⟩
theorem runesG_len (f : Nat) : ∀ l, (runesG f l).length ≤ f := by
  induction f with
  | zero => intro l; simp [runesG]
  | succ f ih =>
    intro l
    rw [runesG]
    split
    · simp
    · simp only [List.length_cons]; have := ih (l.drop (grL l).2); omega
theorem escT_size (n : Int) : (escT n).size ≤ 12 := by
  have h1 := enc_size n
  have h2 := hexT_size (Utf8.encode n)
  have h3 : (⟨#[92, 117, 48, 48]⟩ : ByteArray).size = 4 := rfl
  unfold escT
  repeat' split
  all_goals first | decide | (rw [ByteArray.size_append]; omega) | omega
def escF (l : List Int) : Nat → ByteArray
  | 0 => ⟨#[]⟩
  | j + 1 => escF l j ++ escT (l.getD j 0)
theorem escF_succ (l : List Int) (j : Nat) (h : j < l.length) : escF l (j + 1) = escF l j ++ escT l[j] := by
  rw [escF, List.getD_eq_getElem?_getD, List.getElem?_eq_getElem h]; rfl
/-- A text in quotes. -/
def quoteT (s : ByteArray) : ByteArray := if Lib.validD s.data.toList = true then (⟨#[34]⟩ ++ escF (runesT s) (runesT s).length) ++ ⟨#[34]⟩ else ⟨#[]⟩
set_option maxHeartbeats 2000000 in
theorem spec_Quote (s : ByteArray) (w : World) (hs : s.size ≤ 1048576) :
    Calls Tryz.prog 85 #[.string s] w fun e w' => e = .returned (.string (quoteT s)) ∧ Below w.heap.size w w' := by
  by_cases hv : Lib.validD s.data.toList = true
  · have HD := Lib.hid (show quoteT s = (⟨#[34]⟩ ++ escF (runesT s) (runesT s).length) ++ ⟨#[34]⟩ from if_pos hv)
    have hlr : (runesT s).length ≤ 1048576 := by have := runesG_len s.size s.data.toList; unfold runesT; omega
    have HV := Lib.hid hv; clear hv
    go_enter Tryz.func85, Tryz.ntmps85
    go_wp2_with fail
    refine (spec_TextOk s _ (by omega)).mono ?_
    rintro e w1 ⟨rfl, hb1⟩
    rw [HV.out]
    go_wp2_with fail
    refine (spec_RunesOf s _ hs HV.out).mono ?_
    rintro e w2 ⟨a2, c2, rfl, hr2, hb2⟩
    have HB2 := Lib.hid (hb1.trans (hb2.mono hb1.size)); clear hb1 hb2
    have HR2 := Lib.hid hr2
    obtain ⟨hc1, hc2⟩ := hr2.len
    clear hr2
    have z34 : (⟨#[34]⟩ : ByteArray).size = 1 := rfl
    generalize runesT s = l at *
    go_wp2_with fail
    go_loopw [3, 5] (fun q i wr => ∃ (j : Nat) (o : ByteArray), j ≤ l.length ∧ i = .int .i64 j ∧ q = .string o ∧ Hid (o = ⟨#[34]⟩ ++ escF l j) ∧ o.size ≤ 1 + 12 * j ∧ Below w2.heap.size w2 wr) (fun _ i _ => l.length - (intOf i).toNat)
    case atStart => exact ⟨0, ⟨#[34]⟩, Nat.zero_le _, rfl, rfl, rfl, by omega, Below.refl _ _⟩
    case round =>
      obtain ⟨j, o, hj, rfl, rfl, HO, hos, hb⟩ := hrel
      have hbs := hb.size
      by_cases hlt : j < l.length
      · obtain ⟨b, o2, rfl, hbl, d0, hi⟩ := (HR2.out.below EInt.elem.loc hb (Nat.le_refl _)).int j hlt
        have hlb : b < wr.heap.size := by omega
        have hez := escT_size l[j]
        have HE := Lib.hid (show o ++ escT l[j] = ⟨#[34]⟩ ++ escF l (j + 1) from by rw [HO.out, escF_succ l j hlt, ByteArray.append_assoc])
        have HI := Lib.hid hi; clear hi
        go_wp2_with fail
        refine (spec_EscapeOf l[j] _ HI.out).mono ?_
        rintro e w3 ⟨rfl, hb3⟩
        go_wp2_with fail
        go_roundw
        case rel => exact ⟨j + 1, _, by omega, by go_num, rfl, HE.out, by rw [ByteArray.size_append]; omega, hb.trans (hb3.mono hbs)⟩
        case measure => simp [intOf]; omega
      · have hjj : l.length = j := by omega
        have HE := Lib.hid (show quoteT s = o ++ ⟨#[34]⟩ from by rw [HD.out, HO.out, hjj]); clear hjj
        go_wp2_with fail
        go_ret
        exact ⟨ret_s HE.out.symm, HB2.out.trans (hb.mono HB2.out.size)⟩
  · have HD := Lib.hid (show quoteT s = ⟨#[]⟩ from if_neg hv)
    have HV := Lib.hid (show Lib.validD s.data.toList = false from by simpa using hv); clear hv
    go_enter Tryz.func85, Tryz.ntmps85
    go_wp2_with fail
    refine (spec_TextOk s _ (by omega)).mono ?_
    rintro e w1 ⟨rfl, hb1⟩
    rw [HV.out]
    go_wp2_with fail
    go_ret
    exact ⟨ret_s HD.out.symm, hb1⟩
end Go.Proofs.YthpmfkkmhbbloaaGreatDoor
