/- Texts of this proof, merged: Near2. No condition beyond what each theorem states. -/
import Derived.Test.YtpifadjlbjifhaaGreatDoorRows
import Derived.WalkKit
import Derived.ProofKit
import Derived.OpenShut
import Derived.Handy
import Derived.Lib.Hide
import Derived.Lib.SmallJoins
import Derived.Laws.BytesArg
import Derived.Lib.ItoaNum
import Derived.Lib.ItoaLen
import Derived.Lib.AppendIntMem
import Derived.Deep.RegionHeld3
import Derived.Laws.Bits64b
import Derived.Laws.BitsLemmas
import Derived.Lib.Mul64
import Derived.Test.YtpifadjlbjifhaaGreatDoorZF1
import Derived.Test.YtpifadjlbjifhaaGreatDoorZF2
import Derived.Test.YtpifadjlbjifhaaGreatDoorZF3
import Derived.Test.YtpifadjlbjifhaaGreatDoorZF4
import Derived.Test.YtpifadjlbjifhaaGreatDoorShelf
import Derived.Test.YtpifadjlbjifhaaGreatDoorZF5
import Derived.Test.YtpifadjlbjifhaaGreatDoorZF7
import Derived.Test.YtpifadjlbjifhaaGreatDoorZF8
import Derived.Test.YtpifadjlbjifhaaGreatDoorZF9
import Derived.Test.YtpifadjlbjifhaaGreatDoorZF10
set_option linter.unusedSimpArgs false
set_option linter.unnecessarySimpa false
namespace Go.Proofs.YtpifadjlbjifhaaGreatDoor
open Go.ChangeShapes Go.WideShapes Go.ChangeAt Go.RowKit Go.Joins
set_option linter.unusedVariables false
set_option maxRecDepth 100000
theorem ten_le {k : Nat} (h : k ≤ 16) : 10 ^ k ≤ 10000000000000000 := by
  have h1 : 10 ^ k ≤ 10 ^ 16 := Nat.pow_le_pow_right (by omega) h
  have h2 : (10 : Nat) ^ 16 = 10000000000000000 := by decide
  omega
theorem impl_power10 (k : Nat) (kk : Int) (w : World) (h : kk = k) (hk2 : k ≤ 16) :
    Calls Tryz.prog 120 #[.int .i64 10, .int .i64 kk] w fun e w' => e = .returned (.int .i64 (10 ^ k : Nat)) ∧ Below w.heap.size w w' := by
  subst h; exact impl_power 10 k w (by omega) (by omega) (by omega) (by have := ten_le hk2; omega)
theorem mul64A (x y : Nat) (a b : Int) (ha : a = x) (hb : b = y) (hx : x < 18446744073709551616) (hy : y < 18446744073709551616) (w : World) :
    Calls Tryz.prog 158 #[.int .u64 a, .int .u64 b] w fun e w' => e = .returned (.tuple #[.int .u64 ((x * y / 18446744073709551616 : Nat) : Int), .int .u64 ((x * y % 18446744073709551616 : Nat) : Int)]) ∧ w' = w := by
  subst ha; subst hb; exact Tryz.bits_Mul64 x y hx hy w
theorem shiftedA (n k d : Nat) (a b c : Int) (ha : a = n) (hb : b = k) (hc : c = d) (hn : n < 18446744073709551616) (hk : k ≤ 16) (hd0 : 0 < d) (hd : d < 18446744073709551616) (w : World) :
    Calls Tryz.prog 159 #[.int .u64 a, .int .u64 b, .int .u64 c] w fun e w' => e = .returned (.tuple #[.int .u64 ((shD n k d).1 : Int), .int .i64 (shD n k d).2]) ∧ Below w.heap.size w w' := by
  subst ha; subst hb; subst hc; exact impl_shifted n k d w hn hk hd0 hd
theorem impl_FltNewA (m e : Int) (r : (Int × Int) × Bool) (w : World) (hm : I64 m) (he : I64 e) (h : fltNewD m e = r) :
    Calls Tryz.prog 160 #[.int .i64 m, .int .i64 e] w fun ee w' => ee = .returned (.tuple #[.agg (cF r.1.1 r.1.2), .bool r.2]) ∧ Below w.heap.size w w' := by
  subst h; exact impl_FltNew m e w hm he
theorem shD_big (N K D : Nat) (hD0 : 0 < D) (hD9 : D ≤ 10000000000000000) : (65535 < N * 2 ^ K / D → 65535 < (shD N K D).1) ∧ (N * 2 ^ K / D ≤ 65535 → (shD N K D).1 = N * 2 ^ K / D ∧ (shD N K D).2 = cmpH (N * 2 ^ K % D) D) := by
  unfold shD
  generalize N * 2 ^ K = Z
  by_cases h : D ≤ Z / 18446744073709551616
  · rw [if_pos h]
    refine ⟨fun _ => by simp, fun h2 => ?_⟩
    have h3 : D * 18446744073709551616 ≤ Z := (Nat.le_div_iff_mul_le (by omega)).1 h
    have h4 : 18446744073709551616 ≤ Z / D := by rw [Nat.le_div_iff_mul_le hD0, Nat.mul_comm]; exact h3
    omega
  · rw [if_neg h]; exact ⟨fun h => h, fun _ => ⟨rfl, rfl⟩⟩
set_option maxHeartbeats 4000000 in
set_option maxRecDepth 100000 in
theorem impl_NearFlt (n x : Int) (w : World) (hn : I64 n) (hx : I64 x) (htab : Lib.TabBelow Tryz.prog w.heap.size w "internal/strconv.uint64pow10" .u64 Lib.pow10Tab) :
    Calls Tryz.prog 116 #[.agg (cF n x)] w fun ee w' => ee = .returned (.tuple #[.agg (cF (nearD n x).1.1 (nearD n x).1.2), .bool (nearD n x).2]) ∧ Below w.heap.size w w' := by
  have HT := Lib.hid htab
  have HN := Lib.hid hn
  have HX := Lib.hid hx
  obtain ⟨hn0, hn1⟩ := hn
  obtain ⟨hx0, hx1⟩ := hx
  clear htab
  obtain ⟨RR, hRR⟩ : ∃ r, nearD n x = r := ⟨_, rfl⟩
  rw [hRR]
  have HRR := Lib.hid hRR
  clear hRR
  go_enter Tryz.func116, Tryz.ntmps116
  go_wp2_with fail
  generalize hW : (w.alloc (Obj.cells (cF n x) 91)).alloc (Obj.cells (cF 0 0) 95) = W0
  have q1 : Is W0 w.heap.size 91 (cF n x) := by subst hW; exact (Is.new _ _ _).alloc _
  have q2 : Is W0 (w.heap.size + 1) 95 (cF 0 0) := by subst hW; exact Is.new2 _ _ _ _
  have H0 := Lib.hid (show Below w.heap.size w W0 from by subst hW; exact below2 _ _ _)
  have hs0 : W0.heap.size = w.heap.size + 2 := by subst hW; simp
  clear hW
  refine (impl_DecOk n x W0 HN.out HX.out (fun V hV => HT.out V (H0.out.trans (hV.mono (by omega))))).mono ?_
  rintro ee w2 ⟨rfl, hb2⟩
  have hs2 := hb2.size
  have p1 := q1.below hb2 (by omega)
  have p2 := q2.below hb2 (by omega)
  have HB2 := Lib.hid (H0.out.trans (hb2.mono (by omega))); clear hb2
  obtain ⟨x0, x1⟩ := p1.cells2b
  obtain ⟨z0, z1⟩ := p2.cells2b
  have ff := fun i => p2.frozen i
  have l1 : w.heap.size < w2.heap.size := by omega
  have l2 : w.heap.size + 1 < w2.heap.size := by omega
  by_cases hok : decOk n x
  case neg =>
    have HD := Lib.hid (show RR = ((0, 0), false) from HRR.out.symm.trans (if_pos hok))
    rw [decide_eq_false hok]
    clear hok
    go_wp2_with fail
    obtain ⟨e0, e1⟩ := ((p2.set 0 (.int .i64 0)).set 1 (.int .i64 0)).cells2b
    refine bodyPost_ret (v := .tuple #[.agg #[.int .i64 0, .int .i64 0], .bool false]) (by simp [results, Tryz.results116, go_sem, e0, e1]) rfl ⟨by rw [HD.out], HB2.out.trans ((below2s _ _ _ _).mono (by omega))⟩
  rw [decide_eq_true hok]
  obtain ⟨hN, hx16, hx00⟩ := decOk_n hok HN.out
  obtain ⟨k, hk⟩ : ∃ k : Nat, x = -(k : Int) := ⟨(-x).toNat, by omega⟩
  obtain ⟨N, hNn⟩ : ∃ N : Nat, N = n.natAbs := ⟨_, rfl⟩
  rw [← hNn] at hN
  obtain ⟨p, hp⟩ : ∃ p : Nat, p = 10 ^ k := ⟨_, rfl⟩
  have hp0 : 0 < p := by rw [hp]; exact Nat.pow_pos (by omega)
  have hp1 : p ≤ 10000000000000000 := by rw [hp]; exact ten_le (by omega)
  obtain ⟨J, hJ⟩ : ∃ J : Nat, J = nearJ N p 60 0 := ⟨_, rfl⟩
  have hJ58 : J ≤ 58 := by rw [hJ]; exact nearJ_le N p hN hp0
  have HJI : Hid (∀ i, i < J ↔ 65535 < aQ N p i) := Lib.hid (fun i => by rw [hJ]; exact near_iff N p hN hp0 i)
  have HUS : Hid (∀ j, j ≤ J → p * 2 ^ (j - 16) ≤ 10000000000000000) := Lib.hid (fun j hj => unit_small N p j hN hp0 hp1 (by rw [← hJ]; exact hj))
  have HD := Lib.hid (show RR = fltNewD (sgn n * (nearUp (aQ N p J) (aR N p J) (p * 2 ^ (J - 16)) : Nat)) ((J : Int) - 16) from by
    have e1 : (-x).toNat = k := by omega
    rw [← HRR.out]; unfold nearD; rw [if_neg (fun h => h hok), e1, ← hp, ← hNn, ← hJ]; unfold nearM; rw [← hJ])
  have HPP := Lib.hid hp
  subst hk
  have PK := Lib.hid (And.intro p1 (And.intro p2 HB2.out))
  have hmax : max n (-n) = (N : Int) := by omega
  clear hok hp hJ hNn q1 q2 p1 p2 H0 HB2 ff z0 z1 hs0 hs2 HN HX
  go_wp2_with fail
  refine wp_region_held_drew (S := fun w' => (∀ b o, b < w2.heap.size → w'.cell? ⟨b, o, none⟩ = w2.cell? ⟨b, o, none⟩) ∧ Below (w2.heap.size) w2 w') (by kernel_rfl) (by first | exact ⟨fun _ _ _ => rfl, (Below.refl _ _).drew⟩ | exact keep_step (by assumption) (Below.drew (Below.refl _ _)) (Nat.le_refl _) | exact keep_step (by assumption) (by assumption) (by first | omega | (simp only [World.size_drew]; omega) | (simp only [size_alloc]; omega) | (simp only [World.size_drew, size_alloc]; omega) | (have := (‹(_ ∧ Below (w2.heap.size) w2 _)›).2.size; first | omega | (simp only [World.size_drew]; omega) | (simp only [size_alloc]; omega) | (simp only [World.size_drew, size_alloc]; omega) | (simp only [World.size_drew] at this; omega) | (simp only [size_alloc] at this; omega) | (simp only [World.size_drew, size_alloc] at this; omega)))) (fun hHeld => ?_)
  refine wpAnyH_take (i := 0) (oi := ⟨some 18, _, _, _, _, _⟩) (v := ?_) rfl (by kernel_rfl) (by kernel_rfl) (by kernel_rfl) (fun _ _ _ h => h) (Or.inl ⟨by rfl, ?_⟩) (by assumption) ?_
  rotate_left 1
  · (intro w hSw; (try dsimp only at hSw); go_simp; try (with_reducible rfl))
  try simp only [Act.put, List.setIfInBounds_toArray, List.set_cons_zero, List.set_cons_succ]
  refine wpAnyH_take (i := 1) (oi := ⟨some 19, _, _, _, _, _⟩) (v := ?_) rfl (by kernel_rfl) (by kernel_rfl) (by kernel_rfl) (fun _ _ _ h => h) (Or.inl ⟨by rfl, ?_⟩) (by assumption) ?_
  rotate_left 1
  · (intro w hSw; (try dsimp only at hSw); go_simp; try (with_reducible rfl))
  try simp only [Act.put, List.setIfInBounds_toArray, List.set_cons_zero, List.set_cons_succ]
  refine wpAnyH_take (i := 2) (oi := ⟨some 20, _, _, _, _, _⟩) (v := ?_) rfl (by kernel_rfl) (by kernel_rfl) (by kernel_rfl) (fun _ _ _ h => h) (Or.inl ⟨by rfl, ?_⟩) (by assumption) ?_
  rotate_left 1
  · (intro w hSw; (try dsimp only at hSw); go_simp; try (with_reducible rfl))
  try simp only [Act.put, List.setIfInBounds_toArray, List.set_cons_zero, List.set_cons_succ]
  refine wpAnyH_take (i := 3) (oi := ⟨some 21, _, _, _, _, _⟩) (v := ?_) rfl (by kernel_rfl) (by kernel_rfl) (by kernel_rfl) (fun _ _ _ h => h) (Or.inl ⟨by rfl, ?_⟩) (by assumption) ?_
  rotate_left 1
  · (intro w hSw; (try dsimp only at hSw); go_simp; try (with_reducible rfl))
  try simp only [Act.put, List.setIfInBounds_toArray, List.set_cons_zero, List.set_cons_succ]
  refine wpAnyH_take (i := 4) (oi := ⟨some 22, _, _, _, _, _⟩) (v := ?_) rfl (by kernel_rfl) (by kernel_rfl) (by kernel_rfl) (fun _ _ _ h => h) (Or.inl ⟨by rfl, ?_⟩) (by assumption) ?_
  rotate_left 1
  · (intro w hSw; (try dsimp only at hSw); go_simp; try (with_reducible rfl))
  try simp only [Act.put, List.setIfInBounds_toArray, List.set_cons_zero, List.set_cons_succ]
  refine wpAnyH_take (i := 5) (oi := ⟨some 23, _, _, _, _, _⟩) (v := ?_) rfl (by kernel_rfl) (by kernel_rfl) (by kernel_rfl) (fun _ _ _ h => h) (Or.inl ⟨by rfl, ?_⟩) (by assumption) ?_
  rotate_left 1
  · (intro w hSw; (try dsimp only at hSw); go_simp; try (with_reducible rfl))
  try simp only [Act.put, List.setIfInBounds_toArray, List.set_cons_zero, List.set_cons_succ]
  refine wpAnyH_take (i := 6) (oi := ⟨some 24, _, _, _, _, _⟩) (v := ?_) rfl (by kernel_rfl) (by kernel_rfl) (by kernel_rfl) (fun _ _ _ h => h) (Or.inl ⟨by rfl, ?_⟩) (by assumption) ?_
  rotate_left 1
  · (intro w hSw; (try dsimp only at hSw); go_simp; try (with_reducible rfl))
  try simp only [Act.put, List.setIfInBounds_toArray, List.set_cons_zero, List.set_cons_succ]
  refine wpAnyH_take (i := 7) (oi := ⟨some 25, _, _, _, _, _⟩) (v := ?_) rfl (by kernel_rfl) (by kernel_rfl) (by kernel_rfl) (fun _ _ _ h => h) (Or.inl ⟨by rfl, ?_⟩) (by assumption) ?_
  rotate_left 1
  · (intro w hSw; (try dsimp only at hSw); go_simp; try (with_reducible rfl))
  try simp only [Act.put, List.setIfInBounds_toArray, List.set_cons_zero, List.set_cons_succ]
  refine wpAnyH_take (i := 8) (oi := ⟨some 26, _, _, _, _, _⟩) (v := ?_) rfl (by kernel_rfl) (by kernel_rfl) (by kernel_rfl) (fun _ _ _ h => h) (Or.inl ⟨by rfl, ?_⟩) (by assumption) ?_
  rotate_left 1
  · (intro w hSw; (try dsimp only at hSw); go_simp; try (with_reducible rfl))
  try simp only [Act.put, List.setIfInBounds_toArray, List.set_cons_zero, List.set_cons_succ]
  refine wpAnyH_take (i := 9) (oi := ⟨some 27, _, _, _, _, _⟩) (v := ?_) rfl (by kernel_rfl) (by kernel_rfl) (by kernel_rfl) (fun _ _ _ h => h) (Or.inl ⟨by rfl, ?_⟩) (by assumption) ?_
  rotate_left 1
  · (intro w hSw; (try dsimp only at hSw); go_simp; try (with_reducible rfl))
  try simp only [Act.put, List.setIfInBounds_toArray, List.set_cons_zero, List.set_cons_succ]
  refine wpAnyH_ready (rs := [10]) (by kernel_rfl) (by simp) ?_
  refine AllReadyH.cons (o := ⟨some 28, _, _, _, _, _⟩) rfl (fun K hK => ?_) AllReadyH.nil
  go_simp
  (go_at_call 120; refine (impl_power10 k _ _ (by first | rfl | omega | (rw [Go.IntWalk.i64_left]; exact Go.IntWalk.wrap64_in _ ⟨by omega, by omega⟩) | exact Go.IntWalk.wrap64_in _ ⟨by omega, by omega⟩) (by omega)).mono ?_; rintro e w3 ⟨rfl, hb3⟩; rw [← HPP.out]; have hsz3 : w2.heap.size ≤ w3.heap.size := (by have := hb3.size; first | omega | (simp only [World.size_drew, size_alloc] at this; omega)))
  go_wp2_with fail
  refine hK.out _ _ (by first | exact ⟨fun _ _ _ => rfl, (Below.refl _ _).drew⟩ | exact keep_step (by assumption) (Below.drew (Below.refl _ _)) (Nat.le_refl _) | exact keep_step (by assumption) (by assumption) (by first | omega | (simp only [World.size_drew]; omega) | (simp only [size_alloc]; omega) | (simp only [World.size_drew, size_alloc]; omega) | (have := (‹(_ ∧ Below (w2.heap.size) w2 _)›).2.size; first | omega | (simp only [World.size_drew]; omega) | (simp only [size_alloc]; omega) | (simp only [World.size_drew, size_alloc]; omega) | (simp only [World.size_drew] at this; omega) | (simp only [size_alloc] at this; omega) | (simp only [World.size_drew, size_alloc] at this; omega)))) (fun hHeld => ?_)
  clear hK K
  try simp only [Act.put, List.setIfInBounds_toArray, List.set_cons_zero, List.set_cons_succ]
  refine wpAnyH_take (i := 11) (oi := ⟨some 29, _, _, _, _, _⟩) (v := ?_) rfl (by kernel_rfl) (by kernel_rfl) (by kernel_rfl) (fun _ _ _ h => h) (Or.inl ⟨by rfl, ?_⟩) (by assumption) ?_
  rotate_left 1
  · (intro w hSw; (try dsimp only at hSw); go_simp; try (with_reducible rfl))
  try simp only [Act.put, List.setIfInBounds_toArray, List.set_cons_zero, List.set_cons_succ]
  refine wpAnyH_take (i := 12) (oi := ⟨some 4, _, _, _, _, _⟩) (v := ?_) rfl (by kernel_rfl) (by kernel_rfl) (by kernel_rfl) (fun _ _ _ h => h) (Or.inl ⟨by rfl, ?_⟩) (by assumption) ?_
  rotate_left 1
  · (intro w hSw; (try dsimp only at hSw); go_simp; try (with_reducible rfl))
  try simp only [Act.put, List.setIfInBounds_toArray, List.set_cons_zero, List.set_cons_succ]
  refine wpAnyH_take (i := 13) (oi := ⟨some 5, _, _, _, _, _⟩) (v := ?_) rfl (by kernel_rfl) (by kernel_rfl) (by kernel_rfl) (fun _ _ _ h => h) (Or.inl ⟨by rfl, ?_⟩) (by assumption) ?_
  rotate_left 1
  · (intro w hSw; (try dsimp only at hSw); go_simp; try (with_reducible rfl))
  try simp only [Act.put, List.setIfInBounds_toArray, List.set_cons_zero, List.set_cons_succ]
  refine wpAnyH_done (by kernel_rfl) ?_ _
  all_goals
    have HB8 := Lib.hid (show Below w2.heap.size w2 _ from (‹_ ∧ Below (w2.heap.size) w2 _›).2)
    clear hHeld hb3 hsz3
    have e0 : IntKind.i64.wrap (-n) = -n := by rw [Go.IntWalk.i64_left]; exact Go.IntWalk.wrap64_in _ ⟨by omega, by omega⟩
    have eP : IntKind.u64.wrap (p : Int) = (p : Int) := Mul64.wrapN p (by omega)
    have eN : IntKind.u64.wrap (max n (IntKind.i64.wrap (-n))) = (N : Int) := by rw [e0, hmax]; exact Mul64.wrapN N (by omega)
    rw [eN, eP]
    clear eN e0
    obtain ⟨p1, p2, HB2⟩ := PK.out
    have l3 : w.heap.size + 1 < w3.heap.size := by have := HB8.out.size; omega
    have P1 := Lib.hid (p1.below HB8.out (by omega))
    have P2 := Lib.hid (p2.below HB8.out (by omega))
    have HB3 := Lib.hid (HB2.trans (HB8.out.mono HB2.size))
    clear p1 p2 HB2 HB8 l1 l2 x0 x1
    go_wp2_with fail
    go_loopw [6] (fun ev wr => ∃ (j : Nat) (e : Int), ev = .int .i64 e ∧ e + 16 = (j : Int) ∧ j ≤ J ∧ Below w3.heap.size w3 wr) (fun ev _ => (60 - intOf ev).toNat)
    case atStart => exact ⟨0, -16, rfl, by omega, Nat.zero_le _, Below.refl _ _⟩
    case round =>
      obtain ⟨j, e, rfl, hej, hj, hb⟩ := hrel
      have HB4 := Lib.hid (HB3.out.trans (hb.mono HB3.out.size))
      have p1 := P1.out.below hb (by omega)
      have p2 := P2.out.below hb (by omega)
      have HBR := Lib.hid hb
      have l4 : w.heap.size + 1 < wr.heap.size := by have := hb.size; omega
      clear hb
      have hD9 := HUS.out j hj
      obtain ⟨D, hD⟩ : ∃ D : Nat, D = p * 2 ^ (j - 16) := ⟨_, rfl⟩
      rw [← hD] at hD9
      have hD0 : 0 < D := by rw [hD]; exact Nat.mul_pos hp0 (Nat.two_pow_pos _)
      obtain ⟨K, hK⟩ : ∃ K : Nat, K = 16 - j := ⟨_, rfl⟩
      have HAQ := Lib.hid (show aQ N p j = N * 2 ^ K / D from by unfold aQ; rw [← hD, ← hK])
      have HAR := Lib.hid (show aR N p j = N * 2 ^ K % D from by unfold aR; rw [← hD, ← hK])
      obtain ⟨Q, hQ⟩ : ∃ Q : Nat, Q = (shD N K D).1 := ⟨_, rfl⟩
      obtain ⟨c, hc⟩ : ∃ c : Int, c = (shD N K D).2 := ⟨_, rfl⟩
      have HQ := Lib.hid (show (shD N K D).1 = Q from hQ.symm)
      have HC := Lib.hid (show (shD N K D).2 = c from hc.symm)
      have hMh : p * 2 ^ (j - 16) / 18446744073709551616 = 0 := by rw [← hD]; omega
      have hMl : p * 2 ^ (j - 16) % 18446744073709551616 = D := by rw [← hD]; omega
      have HJJ := Lib.hid (HJI.out j)
      rw [HAQ.out] at HJJ
      have hbig := shD_big N K D hD0 hD9
      by_cases hlast : j < J
      · have hQb : 65535 < Q := by rw [hQ]; exact hbig.1 (HJJ.out.1 hlast)
        have hQi : (65535 : Int) < (Q : Int) := by omega
        clear hQ hc hbig p1 p2
        by_cases he : e < 0
        · have hj16 : j - 16 = 0 := by omega
          have hDp : D = p := by rw [hD, hj16, Nat.pow_zero, Nat.mul_one]
          have ek : -e = (K : Int) := by omega
          have eK : IntKind.u64.wrap (K : Int) = (K : Int) := Mul64.wrapN K (by omega)
          rw [hj16, Nat.pow_zero] at hMh hMl
          rw [hDp] at HQ HC hMl
          clear hD hK hDp
          have HMM := Lib.hid (And.intro hMh hMl); clear hMh hMl
          go_wp2_with fail
          refine (mul64A p 1 _ _ (by rfl) (by rfl) (by omega) (by omega) _).mono ?_
          rintro ee w5 ⟨rfl, hw⟩
          rw [HMM.out.1, HMM.out.2, hw]; clear hw
          dsimp only
          go_wp2_with fail
          refine (shiftedA N K p _ _ _ (by rfl) (by rfl) (by rfl) (by omega) (by omega) hp0 (by omega) _).mono ?_
          rintro ee w6 ⟨rfl, hb6⟩
          rw [HQ.out, HC.out]
          have HB6 := Lib.hid (HBR.out.trans (hb6.mono HBR.out.size)); clear hb6
          go_wp2_with fail
          go_roundw
          case rel => exact ⟨j + 1, e + 1, by go_num, by omega, by omega, HB6.out⟩
          case measure => simp [intOf]; omega
        · obtain ⟨t, ht⟩ : ∃ t : Nat, e = (t : Int) := ⟨e.toNat, by omega⟩
          subst ht
          have hjt : j - 16 = t := by omega
          have hK0 : K = 0 := by omega
          obtain ⟨dn, hdn⟩ : ∃ dn : Nat, dn = 2 ^ t := ⟨_, rfl⟩
          rw [hjt, ← hdn] at hMh hMl hD
          have hdn0 : 0 < dn := by rw [hdn]; exact Nat.two_pow_pos _
          have hdnb : dn ≤ D := by rw [hD]; exact Nat.le_mul_of_pos_left _ hp0
          have et : IntKind.u64.wrap (t : Int) = (t : Int) := Mul64.wrapN t (by omega)
          have eD : IntKind.u64.wrap ((2 : Int) ^ t) = (dn : Int) := by
            rw [show (2 : Int) ^ t = (dn : Int) from by rw [hdn, Int.natCast_pow]; rfl]; exact Mul64.wrapN dn (by omega)
          have eDD : IntKind.u64.wrap ((p : Int) * (dn : Int)) = (D : Int) := by rw [Mul64.mulN, ← hD]; exact Mul64.wrapN D (by omega)
          have hmin : min t 64 = t := by omega
          rw [hK0] at HQ HC
          clear hD hK hdn hK0 hjt
          have HMM := Lib.hid (And.intro hMh hMl); clear hMh hMl
          go_wp2_with fail
          refine (mul64A p dn _ _ (by rfl) (by rfl) (by omega) (by omega) _).mono ?_
          rintro ee w5 ⟨rfl, hw⟩
          rw [HMM.out.1, HMM.out.2, hw]; clear hw
          dsimp only
          go_wp2_with fail
          refine (shiftedA N 0 D _ _ _ (by rfl) (by rfl) (by rfl) (by omega) (by omega) hD0 (by omega) _).mono ?_
          rintro ee w6 ⟨rfl, hb6⟩
          rw [HQ.out, HC.out]
          have HB6 := Lib.hid (HBR.out.trans (hb6.mono HBR.out.size)); clear hb6
          go_wp2_with fail
          go_roundw
          case rel => exact ⟨j + 1, (t : Int) + 1, by go_num, by omega, by omega, HB6.out⟩
          case measure => simp [intOf]; omega
      · obtain rfl : j = J := by omega
        have hQl : N * 2 ^ K / D ≤ 65535 := by
          by_cases hh : 65535 < N * 2 ^ K / D
          · exact absurd (HJJ.out.2 hh) hlast
          · omega
        obtain ⟨hQ2, hc2⟩ := hbig.2 hQl
        rw [← hQ] at hQ2
        rw [← hc] at hc2
        have hQb : Q ≤ 65535 := by omega
        have hQi : ¬ (65535 : Int) < (Q : Int) := by omega
        obtain ⟨Q', hQ'⟩ : ∃ Q' : Nat, Q' = nearUp Q (N * 2 ^ K % D) D := ⟨_, rfl⟩
        have hR4 : (c = 1 ∧ True ∧ Q' = Q + 1) ∨ (c = 0 ∧ (Q : Int) % 2 = 1 ∧ Q' = Q + 1) ∨ (c = 0 ∧ (Q : Int) % 2 = 0 ∧ Q' = Q) ∨ (c = -1 ∧ True ∧ Q' = Q) := by
          rw [hQ', hc2]; unfold nearUp cmpH
          generalize N * 2 ^ K % D = R
          by_cases a1 : D < 2 * R
          · rw [if_pos a1, if_pos (Or.inl a1)]; left; exact ⟨rfl, trivial, rfl⟩
          · rw [if_neg a1]
            by_cases a2 : 2 * R = D
            · rw [if_pos a2]
              by_cases a3 : Q % 2 = 1
              · rw [if_pos (Or.inr ⟨a2, a3⟩)]; right; left; exact ⟨rfl, by omega, rfl⟩
              · rw [if_neg (by omega)]; right; right; left; exact ⟨rfl, by omega, rfl⟩
            · rw [if_neg a2, if_neg (by omega)]; right; right; right; exact ⟨rfl, trivial, rfl⟩
        have HDJ := Lib.hid (show RR = fltNewD (sgn n * (Q' : Int)) e from by
          rw [HD.out, HAQ.out, HAR.out, ← hD, ← hQ2, ← hQ']; congr 1; omega)
        obtain ⟨M, hM⟩ : ∃ M : Int, M = sgn n * (Q' : Int) := ⟨_, rfl⟩
        rw [← hM] at HDJ
        have hsn : (n < 0 ∧ M = -(Q' : Int)) ∨ (¬ n < 0 ∧ M = (Q' : Int)) := by
          by_cases hs : n < 0
          · left; refine ⟨hs, ?_⟩; rw [hM]; unfold sgn; rw [if_pos hs]; omega
          · right; refine ⟨hs, ?_⟩; rw [hM]; unfold sgn; rw [if_neg hs]; omega
        have ei : IntKind.i64.wrap (Q : Int) = (Q : Int) := by rw [Go.IntWalk.i64_left]; exact Go.IntWalk.wrap64_in _ ⟨by omega, by omega⟩
        have ei1 : IntKind.i64.wrap ((Q : Int) + 1) = (Q : Int) + 1 := by rw [Go.IntWalk.i64_left]; exact Go.IntWalk.wrap64_in _ ⟨by omega, by omega⟩
        have eu1 : IntKind.u64.wrap ((Q : Int) + 1) = (Q : Int) + 1 := by rw [show (Q : Int) + 1 = ((Q + 1 : Nat) : Int) from rfl]; exact Mul64.wrapN _ (by omega)
        have PQ := Lib.hid (And.intro p1 p2)
        clear hQ hc hbig hM hQ' hQ2 hc2 hQl p1 p2
        by_cases he : e < 0
        · have hj16 : j - 16 = 0 := by omega
          have hDp : D = p := by rw [hD, hj16, Nat.pow_zero, Nat.mul_one]
          have ek : -e = (K : Int) := by omega
          have eK : IntKind.u64.wrap (K : Int) = (K : Int) := Mul64.wrapN K (by omega)
          rw [hj16, Nat.pow_zero] at hMh hMl
          rw [hDp] at HQ HC hMl
          clear hD hK hDp
          have HMM := Lib.hid (And.intro hMh hMl); clear hMh hMl
          go_wp2_with fail
          refine (mul64A p 1 _ _ (by rfl) (by rfl) (by omega) (by omega) _).mono ?_
          rintro ee w5 ⟨rfl, hw⟩
          rw [HMM.out.1, HMM.out.2, hw]; clear hw
          dsimp only
          go_wp2_with fail
          refine (shiftedA N K p _ _ _ (by rfl) (by rfl) (by rfl) (by omega) (by omega) hp0 (by omega) _).mono ?_
          rintro ee w6 ⟨rfl, hb6⟩
          rw [HQ.out, HC.out]
          have HB6 := Lib.hid (HB4.out.trans (hb6.mono HB4.out.size))
          have p1 := PQ.out.1.below hb6 (by omega)
          have p2 := PQ.out.2.below hb6 (by omega)
          have l6 : w.heap.size + 1 < w6.heap.size := by have := hb6.size; omega
          have l7 : w.heap.size < w6.heap.size := by omega
          clear hb6
          obtain ⟨x0, x1⟩ := p1.cells2b
          have PQ2 := Lib.hid p2
          clear p1 p2
          rcases hR4 with ⟨rfl, hpar, hQ'⟩ | ⟨rfl, hpar, hQ'⟩ | ⟨rfl, hpar, hQ'⟩ | ⟨rfl, hpar, hQ'⟩
          all_goals
            rcases hsn with ⟨hs, hM⟩ | ⟨hs, hM⟩
            all_goals
              go_wp2_with fail
              refine (impl_FltNewA _ _ RR _ ⟨by omega, by omega⟩ ⟨by omega, by omega⟩ (by rw [HDJ.out]; congr 1; omega)).mono ?_
              rintro ee w7 ⟨rfl, hb7⟩
              have p2 := PQ2.out.below hb7 (by omega)
              obtain ⟨z0, z1⟩ := p2.cells2b
              have ff := fun i => p2.frozen i
              have l8 : w.heap.size + 1 < w7.heap.size := by have := hb7.size; omega
              have HB7 := Lib.hid (HB6.out.trans (hb7.mono HB6.out.size)); clear hb7
              clear x0 x1 hQi hpar hQ' hs hM ei ei1 eu1 hej hn0 hn1 hx0 hx1 hN hp0 hp1 hJ58 hmax eP l3 l4 hD9 hD0 hQb hlast he hx16 hx00 l6 l7
              try clear ek eK hj16
              try clear et eD eDD hmin hdn0 hdnb
              dsimp only
              obtain ⟨e0, e1⟩ := ((p2.set 0 (.int .i64 RR.1.1)).set 1 (.int .i64 RR.1.2)).cells2b
              go_wp2_with (refine bodyPost_ret (v := .tuple #[.agg #[.int .i64 RR.1.1, .int .i64 RR.1.2], .bool RR.2]) (by simp [results, Tryz.results116, go_sem, e0, e1]) rfl ⟨rfl, HB7.out.trans ((below2s _ _ _ _).mono (by omega))⟩)
        · obtain ⟨t, ht⟩ : ∃ t : Nat, e = (t : Int) := ⟨e.toNat, by omega⟩
          subst ht
          have hjt : j - 16 = t := by omega
          have hK0 : K = 0 := by omega
          obtain ⟨dn, hdn⟩ : ∃ dn : Nat, dn = 2 ^ t := ⟨_, rfl⟩
          rw [hjt, ← hdn] at hMh hMl hD
          have hdn0 : 0 < dn := by rw [hdn]; exact Nat.two_pow_pos _
          have hdnb : dn ≤ D := by rw [hD]; exact Nat.le_mul_of_pos_left _ hp0
          have et : IntKind.u64.wrap (t : Int) = (t : Int) := Mul64.wrapN t (by omega)
          have eD : IntKind.u64.wrap ((2 : Int) ^ t) = (dn : Int) := by
            rw [show (2 : Int) ^ t = (dn : Int) from by rw [hdn, Int.natCast_pow]; rfl]; exact Mul64.wrapN dn (by omega)
          have eDD : IntKind.u64.wrap ((p : Int) * (dn : Int)) = (D : Int) := by rw [Mul64.mulN, ← hD]; exact Mul64.wrapN D (by omega)
          have hmin : min t 64 = t := by omega
          rw [hK0] at HQ HC
          clear hD hK hdn hK0 hjt
          have HMM := Lib.hid (And.intro hMh hMl); clear hMh hMl
          go_wp2_with fail
          refine (mul64A p dn _ _ (by rfl) (by rfl) (by omega) (by omega) _).mono ?_
          rintro ee w5 ⟨rfl, hw⟩
          rw [HMM.out.1, HMM.out.2, hw]; clear hw
          dsimp only
          go_wp2_with fail
          refine (shiftedA N 0 D _ _ _ (by rfl) (by rfl) (by rfl) (by omega) (by omega) hD0 (by omega) _).mono ?_
          rintro ee w6 ⟨rfl, hb6⟩
          rw [HQ.out, HC.out]
          have HB6 := Lib.hid (HB4.out.trans (hb6.mono HB4.out.size))
          have p1 := PQ.out.1.below hb6 (by omega)
          have p2 := PQ.out.2.below hb6 (by omega)
          have l6 : w.heap.size + 1 < w6.heap.size := by have := hb6.size; omega
          have l7 : w.heap.size < w6.heap.size := by omega
          clear hb6
          obtain ⟨x0, x1⟩ := p1.cells2b
          have PQ2 := Lib.hid p2
          clear p1 p2
          rcases hR4 with ⟨rfl, hpar, hQ'⟩ | ⟨rfl, hpar, hQ'⟩ | ⟨rfl, hpar, hQ'⟩ | ⟨rfl, hpar, hQ'⟩
          all_goals
            rcases hsn with ⟨hs, hM⟩ | ⟨hs, hM⟩
            all_goals
              go_wp2_with fail
              refine (impl_FltNewA _ _ RR _ ⟨by omega, by omega⟩ ⟨by omega, by omega⟩ (by rw [HDJ.out]; congr 1; omega)).mono ?_
              rintro ee w7 ⟨rfl, hb7⟩
              have p2 := PQ2.out.below hb7 (by omega)
              obtain ⟨z0, z1⟩ := p2.cells2b
              have ff := fun i => p2.frozen i
              have l8 : w.heap.size + 1 < w7.heap.size := by have := hb7.size; omega
              have HB7 := Lib.hid (HB6.out.trans (hb7.mono HB6.out.size)); clear hb7
              clear x0 x1 hQi hpar hQ' hs hM ei ei1 eu1 hej hn0 hn1 hx0 hx1 hN hp0 hp1 hJ58 hmax eP l3 l4 hD9 hD0 hQb hlast he hx16 hx00 l6 l7
              try clear ek eK hj16
              try clear et eD eDD hmin hdn0 hdnb
              dsimp only
              obtain ⟨e0, e1⟩ := ((p2.set 0 (.int .i64 RR.1.1)).set 1 (.int .i64 RR.1.2)).cells2b
              go_wp2_with (refine bodyPost_ret (v := .tuple #[.agg #[.int .i64 RR.1.1, .int .i64 RR.1.2], .bool RR.2]) (by simp [results, Tryz.results116, go_sem, e0, e1]) rfl ⟨rfl, HB7.out.trans ((below2s _ _ _ _).mono (by omega))⟩)
end Go.Proofs.YtpifadjlbjifhaaGreatDoor
