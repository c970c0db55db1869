/- Texts of this proof, merged: Drw2, DrwV, Drw3. No condition beyond what each theorem states. -/
import Derived.Test.YtggdenkmohnijaaGreatDoorZO16
import Derived.Test.YtggdenkmohnijaaGreatDoorZO15
set_option linter.unusedSimpArgs false
set_option linter.unnecessarySimpa false
namespace Go.Proofs.YtggdenkmohnijaaGreatDoor
open Go.ChangeShapes Go.WideShapes Go.ChangeAt Go.RowKit Go.Joins
set_option linter.unusedVariables false
set_option maxRecDepth 100000
set_option maxHeartbeats 4000000 in
theorem spec_l1Num (A : Nat) (w : World) (hc : Cur w A) : Calls Tryz.prog 231 #[.pointer (some ⟨A, 0, none⟩)] w fun e w' => ∃ n, (0 ≤ n ∧ n ≤ 1000000000000000) ∧ e = .returned (.int .i64 n) ∧ Cur w' A ∧ Kp A w w' := by
 have HC := Lib.hid hc; clear hc
 go_enter Tryz.func231, Tryz.ntmps231
 go_wp2_with fail
 refine (spec_l1Below A 5 w HC.out ⟨by decide, by decide⟩).mono ?_
 rintro e w2 ⟨x, rfl, hx, _, hc2, hk2⟩
 have HC2 := Lib.hid hc2; have HK2 := Lib.hid hk2; clear hc2 hk2
 have hx5 : x < 5 := by omega
 clear hx
 rcases (show x = 0 ∨ x = 1 ∨ x = 2 ∨ x = 3 ∨ x = 4 by omega) with rfl | rfl | rfl | rfl | rfl
 ·go_wp2_with fail
  refine (spec_l1Below A 70000 w2 HC2.out ⟨by decide, by decide⟩).mono ?_
  rintro e w3 ⟨y, rfl, hy, hy2, hc3, hk3⟩
  go_wp2_with fail
  go_ret
  exact ⟨y, ⟨by omega, by omega⟩, rfl, hc3, HK2.out.trans hk3⟩
 ·go_wp2_with fail
  refine (spec_l1IntL A [0, 1, 9, 10, 255, 256, 65535, 65536, 1000000000000000] _ w2 HC2.out (by decide) (by decide) (by decide)).mono ?_
  rintro e w3 ⟨y, hm, hy, rfl, hc3, hk3⟩
  go_wp2_with fail
  go_ret
  have hy2 : 0 ≤ y ∧ y ≤ 1000000000000000 := by revert y; decide
  exact ⟨y, hy2, rfl, hc3, HK2.out.trans hk3⟩
 ·go_wp2_with fail
  refine (spec_l1Below A 1000000 w2 HC2.out ⟨by decide, by decide⟩).mono ?_
  rintro e w3 ⟨y, rfl, hy, hy2, hc3, hk3⟩
  have HC3 := Lib.hid hc3; have HK3 := Lib.hid (HK2.out.trans hk3); clear hc3 hk3
  go_wp2_with fail
  refine (spec_l1Below A 1000000 w3 HC3.out ⟨by decide, by decide⟩).mono ?_
  rintro e w4 ⟨z, rfl, hz, hz2, hc4, hk4⟩
  go_wp2_with fail
  go_ret
  have hyz : y * z ≤ 999999 * 999999 := Nat.mul_le_mul (by omega) (by omega)
  have hyw : wrap64 ((y : Int) * (z : Int)) = ((y * z : Nat) : Int) := by rw [Int.natCast_mul]; exact Go.IntWalk.wrap64_in _ ⟨by rw [← Int.natCast_mul]; omega, by rw [← Int.natCast_mul]; omega⟩
  exact ⟨wrap64 ((y : Int) * (z : Int)), by rw [hyw]; omega, rfl, hc4, HK3.out.trans hk4⟩
 ·go_wp2_with fail
  refine (spec_l1Below A 50 w2 HC2.out ⟨by decide, by decide⟩).mono ?_
  rintro e w3 ⟨y, rfl, hy, hy2, hc3, hk3⟩
  have hy0 : (0 : Int) ≤ (y : Int) := by omega
  go_wp2_with fail
  go_ret
  have hp : 2 ^ y ≤ 562949953421312 := Nat.le_trans (Nat.pow_le_pow_right (by omega) (show y ≤ 49 by omega)) (by decide)
  have hpi : (2 : Int) ^ y = ((2 ^ y : Nat) : Int) := by simp
  have key : ∀ p : Nat, p ≤ 562949953421312 → 0 ≤ wrap64 (p : Int) ∧ wrap64 (p : Int) ≤ 1000000000000000 := fun p hp => by rw [Go.IntWalk.wrap64_in _ ⟨by omega, by omega⟩]; omega
  exact ⟨wrap64 (2 ^ y), by rw [hpi]; exact key _ hp, rfl, hc3, HK2.out.trans hk3⟩
 ·go_wp2_with fail
  refine (spec_l1Below A 30 w2 HC2.out ⟨by decide, by decide⟩).mono ?_
  rintro e w3 ⟨y, rfl, hy, hy2, hc3, hk3⟩
  go_wp2_with fail
  go_ret
  exact ⟨y, ⟨by omega, by omega⟩, rfl, hc3, HK2.out.trans hk3⟩
set_option maxHeartbeats 4000000 in
theorem spec_l1Signed (A : Nat) (w : World) (hc : Cur w A) : Calls Tryz.prog 177 #[.pointer (some ⟨A, 0, none⟩)] w fun e w' => ∃ n, (-1000000000000000 ≤ n ∧ n ≤ 1000000000000000) ∧ e = .returned (.int .i64 n) ∧ Cur w' A ∧ Kp A w w' := by
 have HC := Lib.hid hc; clear hc
 go_enter Tryz.func177, Tryz.ntmps177
 go_wp2_with fail
 refine (spec_l1Once A 2 w HC.out ⟨by decide, by decide⟩).mono ?_
 rintro e w2 ⟨b, rfl, hc2, hk2⟩
 have HC2 := Lib.hid hc2; have HK2 := Lib.hid hk2; clear hc2 hk2
 cases b with
 | true =>
  go_wp2_with fail
  refine (spec_l1Num A w2 HC2.out).mono ?_
  rintro e w3 ⟨y, ⟨hy0, hy1⟩, rfl, hc3, hk3⟩
  go_wp2_with fail
  go_ret
  exact ⟨_, by first | omega | (rw [Go.IntWalk.wrap64_in (-y) ⟨by omega, by omega⟩]; omega), rfl, hc3, HK2.out.trans hk3⟩
 | false =>
  go_wp2_with fail
  refine (spec_l1Num A w2 HC2.out).mono ?_
  rintro e w3 ⟨y, ⟨hy0, hy1⟩, rfl, hc3, hk3⟩
  go_wp2_with fail
  go_ret
  exact ⟨y, ⟨by omega, hy1⟩, rfl, hc3, HK2.out.trans hk3⟩
set_option maxHeartbeats 4000000 in
theorem spec_l1Odd (A : Nat) (w : World) (hc : Cur w A) : Calls Tryz.prog 185 #[.pointer (some ⟨A, 0, none⟩)] w fun e w' => ∃ n, I64 n ∧ e = .returned (.int .i64 n) ∧ Cur w' A ∧ Kp A w w' := by
 have HC := Lib.hid hc; clear hc
 go_enter Tryz.func185, Tryz.ntmps185
 go_wp2_with fail
 refine (spec_l1IntL A [-1, 0, 1, 2, 255, 256, 65535, 2147483647, 2147483648, 4294967295, 4294967296, -2147483648, 9223372036854775807, -9223372036854775808] _ w HC.out (by decide) (by decide) (by decide)).mono ?_
 rintro e w3 ⟨y, hm, hy, rfl, hc3, hk3⟩
 go_wp2_with fail
 go_ret
 exact ⟨y, hy, rfl, hc3, hk3⟩
set_option maxHeartbeats 4000000 in
theorem spec_l1Raw (A : Nat) (w : World) (hc : Cur w A) : Calls Tryz.prog 117 #[.pointer (some ⟨A, 0, none⟩)] w fun e w' => ∃ n, I64 n ∧ e = .returned (.int .i64 n) ∧ Cur w' A ∧ Kp A w w' := by
 have HC := Lib.hid hc; clear hc
 go_enter Tryz.func117, Tryz.ntmps117
 go_wp2_with fail
 refine (spec_l1Once A 2 w HC.out ⟨by decide, by decide⟩).mono ?_
 rintro e w2 ⟨b, rfl, hc2, hk2⟩
 have HC2 := Lib.hid hc2; have HK2 := Lib.hid hk2; clear hc2 hk2
 cases b with
 | true =>
  go_wp2_with fail
  refine (spec_l1Odd A w2 HC2.out).mono ?_
  rintro e w3 ⟨y, hy, rfl, hc3, hk3⟩
  go_wp2_with fail
  go_ret
  exact ⟨y, hy, rfl, hc3, HK2.out.trans hk3⟩
 | false =>
  go_wp2_with fail
  refine (spec_l1IntL A [-1, 1000000000000001, -1000000000000001] _ w2 HC2.out (by decide) (by decide) (by decide)).mono ?_
  rintro e w3 ⟨y, hm, hy, rfl, hc3, hk3⟩
  go_wp2_with fail
  go_ret
  exact ⟨y, hy, rfl, hc3, HK2.out.trans hk3⟩
mutual
def AllT (P : T → Prop) : T → Prop | .mk k n x s l => P (.mk k n x s l) ∧ AllTL P l
def AllTL (P : T → Prop) : List T → Prop | [] => True | t :: r => AllT P t ∧ AllTL P r
end
theorem AllTL_iff (P : T → Prop) : ∀ l : List T, AllTL P l ↔ ∀ t ∈ l, AllT P t := by
 intro l
 induction l with
 | nil => simp [AllTL]
 | cons t r ih => simp [AllTL, ih]
theorem AllT_iff (P : T → Prop) (t : T) : AllT P t ↔ P t ∧ ∀ u ∈ t.l, AllT P u := by
 obtain ⟨k, n, x, s, l⟩ := t
 simp only [AllT, AllTL_iff, T.l]
theorem AllT.mono {P Q : T → Prop} (h : ∀ t, P t → Q t) : ∀ t, AllT P t → AllT Q t := by
 apply T.ind
 intro k n x s l ih ht
 rw [AllT_iff] at ht ⊢
 exact ⟨h _ ht.1, fun u hu => ih u hu (ht.2 u hu)⟩
def namQ (t : T) : Prop := t.l = [] ∧ t.x = 0 ∧ ((t.k = 3 ∧ 0 ≤ t.n ∧ t.n ≤ 3 ∧ t.s = ⟨#[]⟩) ∨ (t.k = 7 ∧ t.n = 0 ∧ t.s ∈ [(⟨#[97]⟩ : ByteArray), ⟨#[98]⟩, ⟨#[99]⟩, ⟨#[]⟩, ⟨#[107, 101, 121]⟩, ⟨#[195, 169]⟩]))
def drQ (t : T) : Prop := ownQ t.k t.n t.x t.s t.l.length ∧ t.s.size ≤ 12 ∧ t.l.length ≤ 6 ∧ (t.k = 10 → ∀ i (h : i < t.l.length), i % 2 = 0 → namQ t.l[i])
def Dr (D : Nat) (t : T) : Prop := AllT drQ t ∧ T.depth t ≤ D
theorem AllT.own {t : T} (h : AllT drQ t) : allB ownB t = true := by
 revert h
 revert t
 apply T.ind
 intro k n x s l ih h
 rw [AllT_iff] at h
 rw [allB_eq, Bool.and_eq_true, List.all_eq_true]
 exact ⟨decide_eq_true h.1.1, fun u hu => ih u hu (h.2 u hu)⟩
theorem dv_nil : (⟨#[]⟩ : ByteArray).toList = [] := by
 rw [ByteArray.toList]; unfold ByteArray.toList.loop; simp [ByteArray.size]
theorem Dr.leaf {D : Nat} {k n x : Int} {s : ByteArray} (h : ownQ k n x s 0) (hs : s.size ≤ 12) (hD : 1 ≤ D) : Dr D (.mk k n x s []) := by
 refine ⟨(AllT_iff _ _).2 ⟨⟨h, hs, by simp [T.l], fun _ i hi => by simp [T.l] at hi⟩, by simp [T.l]⟩, ?_⟩
 simp only [T.depth, T.depthL]; omega
theorem Dr.more {D D' : Nat} {t : T} (h : Dr D t) (hD : D ≤ D') : Dr D' t := ⟨h.1, Nat.le_trans h.2 hD⟩
theorem nam_own {t : T} (h : namQ t) : ownQ t.k t.n t.x t.s 0 := by
 obtain ⟨_, hx, ⟨hk, h1, h2, h3⟩ | ⟨hk, h1, h2⟩⟩ := h
 ·rw [hk, hx, h3]; exact (own3 _ _ _ _).2 ⟨dv_nil, rfl, rfl, by omega, by omega⟩
 ·rw [hk, hx, h1]; refine (own7 _ _ _ _).2 ⟨rfl, rfl, rfl, ?_⟩
  simp only [List.mem_cons, List.not_mem_nil, or_false] at h2
  rcases h2 with h | h | h | h | h | h <;> rw [h] <;> rfl
theorem nam_size {t : T} (h : namQ t) : t.s.size ≤ 3 := by
 obtain ⟨_, hx, ⟨hk, h1, h2, h3⟩ | ⟨hk, h1, h2⟩⟩ := h
 ·rw [h3]; decide
 ·simp only [List.mem_cons, List.not_mem_nil, or_false] at h2
  rcases h2 with h | h | h | h | h | h <;> rw [h] <;> decide
theorem nam_dr {t : T} {D : Nat} (h : namQ t) (hD : 1 ≤ D) : Dr D t := by
 have h1 := nam_own h
 have h2 := nam_size h
 have h3 := h.1
 obtain ⟨k, n, x, s, l⟩ := t
 obtain rfl : l = [] := h3
 exact Dr.leaf h1 (by have : s.size ≤ 3 := h2; omega) hD
def LOk (D : Nat) (kd : Int) (l : List T) (par : Nat) : Prop := (∀ t ∈ l, Dr D t) ∧ (kd = 10 → l.length % 2 = par ∧ ∀ i (h : i < l.length), i % 2 = 0 → namQ l[i])
theorem LOk.nil (D : Nat) (kd : Int) : LOk D kd [] 0 := ⟨by simp, fun _ => ⟨rfl, fun i h => by simp at h⟩⟩
theorem LOk.skip {D : Nat} {l : List T} (h : LOk D 9 l 0) : LOk D 9 l 1 := ⟨h.1, fun h => absurd h (by decide)⟩
theorem LOk.name {D : Nat} {kd : Int} {l : List T} {t : T} (h : LOk D kd l 0) (ht : namQ t) (hD : 1 ≤ D) : LOk D kd (l ++ [t]) 1 := by
 refine ⟨fun u hu => ?_, fun hk => ?_⟩
 ·rcases List.mem_append.1 hu with hu | hu
  ·exact h.1 u hu
  ·rw [List.mem_singleton.1 hu]; exact nam_dr ht hD
 ·obtain ⟨h1, h2⟩ := h.2 hk
  refine ⟨by simp; omega, fun i hi hp => ?_⟩
  rcases Nat.lt_or_ge i l.length with hl | hl
  ·rw [List.getElem_append_left hl]; exact h2 i hl hp
  ·obtain rfl : i = l.length := by simp at hi; omega
   rw [List.getElem_concat_length rfl]; exact ht
theorem LOk.elem {D : Nat} {kd : Int} {l : List T} {t : T} (h : LOk D kd l 1) (ht : Dr D t) : LOk D kd (l ++ [t]) 0 := by
 refine ⟨fun u hu => ?_, fun hk => ?_⟩
 ·rcases List.mem_append.1 hu with hu | hu
  ·exact h.1 u hu
  ·rw [List.mem_singleton.1 hu]; exact ht
 ·obtain ⟨h1, h2⟩ := h.2 hk
  refine ⟨by simp; omega, fun i hi hp => ?_⟩
  rcases Nat.lt_or_ge i l.length with hl | hl
  ·rw [List.getElem_append_left hl]; exact h2 i hl hp
  ·obtain rfl : i = l.length := by simp at hi; omega
   omega
theorem depthL_le {D : Nat} : ∀ {l : List T}, (∀ t ∈ l, T.depth t ≤ D) → T.depthL l ≤ D := by
 intro l
 induction l with
 | nil => intro _; simp [T.depthL]
 | cons t r ih =>
  intro h
  simp only [T.depthL]
  have := h t (by simp)
  have := ih (fun u hu => h u (by simp [hu]))
  omega
theorem LOk.done {D : Nat} {kd : Int} {l : List T} (h : LOk D kd l 0) (hk : kd = 9 ∨ kd = 10) (hl : l.length ≤ 6) : Dr (D + 1) (.mk kd 0 0 ⟨#[]⟩ l) := by
 refine ⟨(AllT_iff _ _).2 ⟨⟨?_, (show (⟨#[]⟩ : ByteArray).size ≤ 12 by decide), hl, fun e => (h.2 e).2⟩, fun u hu => (h.1 u hu).1⟩, ?_⟩
 ·rcases hk with rfl | rfl
  ·exact (own9 _ _ _ _).2 ⟨dv_nil, rfl, rfl⟩
  ·exact (own10 _ _ _ _).2 ⟨dv_nil, rfl, rfl, (h.2 rfl).1⟩
 ·have := depthL_le (fun t ht => (h.1 t ht).2)
  simp only [T.depth]; omega
theorem Dr.tag {D : Nat} {t : T} {n : Int} (h : Dr D t) (h0 : 0 ≤ n) (h1 : n ≤ 1000000000000000) : Dr (D + 1) (.mk 11 n 0 ⟨#[]⟩ [t]) := by
 refine ⟨(AllT_iff _ _).2 ⟨⟨(own11 _ _ _ _).2 ⟨dv_nil, rfl, ⟨h0, h1⟩, rfl⟩, (show (⟨#[]⟩ : ByteArray).size ≤ 12 by decide), by simp [T.l], fun e => absurd (show (11 : Int) = 10 from e) (by decide)⟩, fun u hu => ?_⟩, ?_⟩
 ·rw [List.mem_singleton.1 hu]; exact h.1
 ·have := h.2
  simp only [T.depth, T.depthL]; omega
theorem dv_flt {m e : Int} (h0 : 0 ≤ m) (h1 : m ≤ 65535) (hp : m = 0 ∨ m % 2 = 1) (hm : m = 0 → e = 0) (he : -16 ≤ e) (h30 : e ≤ 30 ∨ (m = 1 ∧ e ≤ 45)) : fltOk m e ∧ fltOk (wrap64 (-m)) e := by
 have hw : wrap64 (-m) = -m := Go.IntWalk.wrap64_in (-m) ⟨by omega, by omega⟩
 rw [hw]
 by_cases hz : m = 0
 ·have := hm hz; subst this; subst hz
  exact ⟨Or.inl ⟨rfl, rfl⟩, Or.inl ⟨rfl, rfl⟩⟩
 have ht : m.tmod 2 ≠ 0 := by rw [Int.tmod_eq_emod_of_nonneg h0]; omega
 have htn : (-m).tmod 2 ≠ 0 := by rw [Int.neg_tmod]; omega
 have key : e ≤ 30 ∨ (e ≤ 46 ∧ -65535 ≤ m * 2 ^ (e - 30).toNat ∧ m * 2 ^ (e - 30).toNat ≤ 65535) := by
  rcases h30 with h | ⟨rfl, h⟩
  ·exact Or.inl h
  ·by_cases h30 : e ≤ 30
   ·exact Or.inl h30
   right
   have h5 : 2 ^ (e - 30).toNat ≤ 32768 := Nat.le_trans (Nat.pow_le_pow_right (by omega) (show (e - 30).toNat ≤ 15 by omega)) (by decide)
   have h8 : (2 : Int) ^ (e - 30).toNat = ((2 ^ (e - 30).toNat : Nat) : Int) := by simp
   rw [h8]
   clear h8
   generalize 2 ^ (e - 30).toNat = p at *
   exact ⟨by omega, by omega, by omega⟩
 refine ⟨Or.inr ⟨hz, ⟨by omega, h1⟩, ht, he, key⟩, Or.inr ⟨by omega, ⟨by omega, by omega⟩, htn, he, ?_⟩⟩
 rcases key with h | ⟨h1, h2, h3⟩
 ·exact Or.inl h
 ·refine Or.inr ⟨h1, ?_, ?_⟩ <;> rw [Int.neg_mul] <;> omega
theorem dv_dec (n : Int) (k : Nat) : decOk (decNewD n k).1.1 (decNewD n k).1.2 := by
 have h0 : decOk 0 0 := Or.inl ⟨rfl, by decide, by decide⟩
 unfold decNewD
 split
 ·exact h0
 split
 ·exact h0
 split
 ·assumption
 ·exact h0
theorem dv_dec15 : decOk 15 (-1) := Or.inr ⟨by decide, by decide, by decide +kernel, by decide⟩
theorem dv_num {m x : Int} (h : decOk m x) : (x = 0 ∧ ownQ 3 m 0 ⟨#[]⟩ 0) ∨ (x ≠ 0 ∧ ownQ 6 m x ⟨#[]⟩ 0) := by
 rcases h with ⟨rfl, h1, h2⟩ | ⟨h0, h1, h2, h3⟩
 ·exact Or.inl ⟨rfl, (own3 _ _ _ _).2 ⟨dv_nil, rfl, rfl, h1, h2⟩⟩
 ·exact Or.inr ⟨h0, (own6 _ _ _ _).2 ⟨dv_nil, rfl, by omega, Or.inr ⟨h0, h1, h2, h3⟩⟩⟩
theorem strOfNums_list (l : List Int) : (strOfNums l).data.toList = l.map (fun x => UInt8.ofNat x.toNat) := by simp [strOfNums]
theorem u8_toNat (n : Nat) (h : n < 256) : (UInt8.ofNat n).toNat = n := by rw [UInt8.toNat_ofNat']; exact Nat.mod_eq_of_lt h
set_option maxHeartbeats 4000000 in
theorem gr_enc (n : Int) (h : runeOk n) (r : List UInt8) : (grL ((encN n).map (fun x => UInt8.ofNat x.toNat) ++ r)).2 = (encN n).length := by
 obtain ⟨u, rfl⟩ : ∃ u : Nat, n = u := ⟨n.toNat, by have := h.1; omega⟩
 obtain ⟨⟨_, h1⟩, h2⟩ := h
 have hu : u ≤ 1114111 := by omega
 unfold encN
 by_cases c1 : u < 128
 ·rw [if_pos (show (u : Int) < 128 from by omega)]
  simp only [List.map_cons, List.map_nil, List.cons_append, List.nil_append, Int.toNat_natCast]
  unfold grL grW
  simp only [List.getD_cons_zero]
  rw [u8_toNat u (by omega), if_pos c1]; rfl
 rw [if_neg (show ¬ (u : Int) < 128 from by omega)]
 by_cases c2 : u < 2048
 ·rw [if_pos (show (u : Int) < 2048 from by omega)]
  simp only [List.map_cons, List.map_nil, List.cons_append, List.nil_append]
  rw [show (192 + (u : Int) / 64).toNat = 192 + u / 64 from by omega, show (128 + (u : Int) % 64).toNat = 128 + u % 64 from by omega]
  unfold grL grW
  simp only [List.getD_cons_zero, List.getD_cons_succ, List.length_cons]
  rw [u8_toNat (192 + u / 64) (by omega), u8_toNat (128 + u % 64) (by omega), if_neg (by omega), if_pos (by omega), if_pos (by omega)]; rfl
 rw [if_neg (show ¬ (u : Int) < 2048 from by omega)]
 by_cases c3 : u < 65536
 ·rw [if_pos (show (u : Int) < 65536 from by omega)]
  simp only [List.map_cons, List.map_nil, List.cons_append, List.nil_append]
  rw [show (224 + (u : Int) / 4096).toNat = 224 + u / 4096 from by omega, show (128 + (u : Int) / 64 % 64).toNat = 128 + u / 64 % 64 from by omega, show (128 + (u : Int) % 64).toNat = 128 + u % 64 from by omega]
  unfold grL grW
  simp only [List.getD_cons_zero, List.getD_cons_succ, List.length_cons]
  rw [u8_toNat (224 + u / 4096) (by omega), u8_toNat (128 + u / 64 % 64) (by omega), u8_toNat (128 + u % 64) (by omega), if_neg (by omega), if_neg (by omega), if_pos (by omega), if_pos (by omega)]; rfl
 ·rw [if_neg (show ¬ (u : Int) < 65536 from by omega)]
  simp only [List.map_cons, List.map_nil, List.cons_append, List.nil_append]
  rw [show (240 + (u : Int) / 262144).toNat = 240 + u / 262144 from by omega, show (128 + (u : Int) / 4096 % 64).toNat = 128 + u / 4096 % 64 from by omega, show (128 + (u : Int) / 64 % 64).toNat = 128 + u / 64 % 64 from by omega, show (128 + (u : Int) % 64).toNat = 128 + u % 64 from by omega]
  unfold grL grW
  simp only [List.getD_cons_zero, List.getD_cons_succ, List.length_cons]
  rw [u8_toNat (240 + u / 262144) (by omega), u8_toNat (128 + u / 4096 % 64) (by omega), u8_toNat (128 + u / 64 % 64) (by omega), u8_toNat (128 + u % 64) (by omega), if_neg (by omega), if_neg (by omega), if_neg (by omega), if_pos (by omega), if_pos (by omega)]; rfl
theorem enc_pos (n : Int) : encN n ≠ [] := by unfold encN; split; simp; split; simp; split <;> simp
theorem valid_enc (n : Int) (h : runeOk n) (r : List UInt8) : Lib.validD ((encN n).map (fun x => UInt8.ofNat x.toNat) ++ r) = Lib.validD r := by
 have hne : (encN n).map (fun x => UInt8.ofNat x.toNat) ++ r ≠ [] := by simp [enc_pos]
 have hl : (encN n).length ≠ 0 := by simp [enc_pos]
 rw [validD_gr _ hne, gr_enc n h r, if_neg hl, List.drop_append_of_le_length (by simp), List.drop_eq_nil_of_le (by simp), List.nil_append]
theorem valid_runes : ∀ (l : List Int), (∀ x ∈ l, runeOk x) → Lib.validD (strOfNums (l.flatMap encN)).data.toList = true := by
 intro l
 rw [strOfNums_list]
 induction l with
 | nil => intro _; exact Lib.validD_nil
 | cons x r ih =>
  intro h
  rw [List.flatMap_cons, List.map_append, valid_enc x (h x (by simp))]
  exact ih (fun y hy => h y (by simp [hy]))
set_option maxHeartbeats 8000000 in
theorem spec_l5Draw (A : Nat) (w : World) (hc : Cur w A) : Calls Tryz.prog 178 #[.pointer (some ⟨A, 0, none⟩)] w fun e w' => ∃ m x, fltOk m x ∧ I64 m ∧ I64 x ∧ e = .returned (.agg (cF m x)) ∧ Cur w' A ∧ Kp A w w' := by
 have hlA := hc.lt
 have HC0 := Lib.hid (hc.below (below1 w (.cells (cF 0 0) 61)) hlA)
 have HK0 := Lib.hid (Kp.alloc (w := w) (Nat.le_of_lt hlA) (.cells (cF 0 0) 61))
 have HI0 := Lib.hid (Is.new w (cF 0 0) 61)
 clear hc
 go_enter Tryz.func178, Tryz.ntmps178
 go_wp2_with fail
 refine (spec_l1Below A 32767 _ HC0.out ⟨by decide, by decide⟩).mono ?_
 rintro e w2 ⟨x, rfl, hx, hx2, hc2, hk2⟩
 have HC2 := Lib.hid hc2; have HI2 := Lib.hid (hk2.is HI0.out (by omega)); have HK2 := Lib.hid (HK0.out.trans hk2); clear hc2 hk2 HI0 HK0 HC0
 go_wp2_with fail
 refine (spec_l1IntL A [0, 1, 3, 5, 255, 32767, 65535, 1 + 2 * x] _ w2 HC2.out ?_ (by simp) (by simp)).mono ?_
 ·intro y hy
  simp only [List.mem_cons, List.not_mem_nil, or_false] at hy
  rcases hy with rfl | rfl | rfl | rfl | rfl | rfl | rfl | rfl <;> exact ⟨by omega, by omega⟩
 rintro e w3 ⟨m, hmm, hm, rfl, hc3, hk3⟩
 have HMM := Lib.hid (show 0 ≤ m ∧ m ≤ 65535 ∧ (m = 0 ∨ m % 2 = 1) from by
  simp only [List.mem_cons, List.not_mem_nil, or_false] at hmm
  rcases hmm with rfl | rfl | rfl | rfl | rfl | rfl | rfl | rfl <;> omega)
 clear hmm
 have HC3 := Lib.hid hc3; have HI3 := Lib.hid (hk3.is HI2.out (by omega)); have HK3 := Lib.hid (HK2.out.trans hk3); clear hc3 hk3 HI2 HK2 HC2
 go_wp2_with fail
 refine (spec_l1Below A 47 _ HC3.out ⟨by decide, by decide⟩).mono ?_
 rintro e w4 ⟨y, rfl, hy, hy2, hc4, hk4⟩
 have HC4 := Lib.hid hc4; have HI4 := Lib.hid (hk4.is HI3.out (by omega)); have HK4 := Lib.hid (HK3.out.trans hk4); clear hc4 hk4 HI3 HK3 HC3
 go_wp2_with fail
 refine (spec_l1IntL A [0, 0, 1, -1, -16, 30, y - 16] _ w4 HC4.out ?_ (by simp) (by simp)).mono ?_
 ·intro z hz
  simp only [List.mem_cons, List.not_mem_nil, or_false] at hz
  rcases hz with rfl | rfl | rfl | rfl | rfl | rfl | rfl <;> exact ⟨by omega, by omega⟩
 rintro e w5 ⟨ex, hem, hex, rfl, hc5, hk5⟩
 have HEX := Lib.hid (show -16 ≤ ex ∧ ex ≤ 30 from by
  simp only [List.mem_cons, List.not_mem_nil, or_false] at hem
  rcases hem with rfl | rfl | rfl | rfl | rfl | rfl | rfl <;> omega)
 clear hem
 have HC5 := Lib.hid hc5; have HI5 := Lib.hid (hk5.is HI4.out (by omega)); have HK5 := Lib.hid (HK4.out.trans hk5); clear hc5 hk5 HI4 HK4 HC4
 obtain ⟨hm0, hm1⟩ := hm
 obtain ⟨hex0, hex1⟩ := hex
 by_cases m0 : m = 0
 ·have m0b : (m == 0) = true := by simp [m0]
  have m1b : (m == 1) = false := by simp [m0]
  have M0 := Lib.hid m0
  clear m0
  go_wp2_with fail
  refine (spec_l1Once A 3 w5 HC5.out ⟨by decide, by decide⟩).mono ?_
  rintro e w9 ⟨bn, rfl, hc9, hk9⟩
  have HC9 := Lib.hid hc9; have HI9 := Lib.hid (hk9.is HI5.out (by omega)); have HK9 := Lib.hid (HK5.out.trans hk9); clear hc9 hk9
  cases bn with
  | true =>
   have ff := fun i => HI9.out.frozen i; have lg := HI9.out.lt; obtain ⟨z0, z1⟩ := HI9.out.cells2
   go_wp2_with fail
   obtain ⟨e0, e1, hcf, hkf⟩ := fin2 (.int .i64 (wrap64 (-m))) (.int .i64 (0 : Int)) HI9.out HK9.out (Nat.le_refl _) HC9.out hlA
   refine bodyPost_ret (v := .agg #[.int .i64 (wrap64 (-m)), .int .i64 (0 : Int)]) (by simp [results, Tryz.results178, go_sem, e0, e1]) rfl ⟨_, _, (dv_flt HMM.out.1 HMM.out.2.1 HMM.out.2.2 (fun _ => rfl) (by decide) (Or.inl (by decide))).2, wrap_i64 _, ⟨by decide, by decide⟩, rfl, hcf, hkf⟩
  | false =>
   have ff := fun i => HI9.out.frozen i; have lg := HI9.out.lt; obtain ⟨z0, z1⟩ := HI9.out.cells2
   go_wp2_with fail
   obtain ⟨e0, e1, hcf, hkf⟩ := fin2 (.int .i64 (m)) (.int .i64 (0 : Int)) HI9.out HK9.out (Nat.le_refl _) HC9.out hlA
   refine bodyPost_ret (v := .agg #[.int .i64 (m), .int .i64 (0 : Int)]) (by simp [results, Tryz.results178, go_sem, e0, e1]) rfl ⟨_, _, (dv_flt HMM.out.1 HMM.out.2.1 HMM.out.2.2 (fun _ => rfl) (by decide) (Or.inl (by decide))).1, ⟨hm0, hm1⟩, ⟨by decide, by decide⟩, rfl, hcf, hkf⟩
 ·have m0b : (m == 0) = false := by simp [m0]
  have M0 := Lib.hid m0
  clear m0
  by_cases m1 : m = 1
  ·have m1b : (m == 1) = true := by simp [m1]
   have M1 := Lib.hid m1
   clear m1
   go_wp2_with fail
   refine (spec_l1Once A 2 w5 HC5.out ⟨by decide, by decide⟩).mono ?_
   rintro e w6 ⟨b6, rfl, hc6, hk6⟩
   have HC6 := Lib.hid hc6; have HI6 := Lib.hid (hk6.is HI5.out (by omega)); have HK6 := Lib.hid (HK5.out.trans hk6); clear hc6 hk6
   cases b6 with
   | true =>
    go_wp2_with fail
    refine (spec_l1IntL A [31, 45] _ w6 HC6.out (by decide) (by decide) (by decide)).mono ?_
    rintro e w7 ⟨x7, hxm, hx7, rfl, hc7, hk7⟩
    have HX7 := Lib.hid (show 31 ≤ x7 ∧ x7 ≤ 45 from by simp only [List.mem_cons, List.not_mem_nil, or_false] at hxm; rcases hxm with rfl | rfl <;> omega)
    clear hxm
    have HC7 := Lib.hid hc7; have HI7 := Lib.hid (hk7.is HI6.out (by omega)); have HK7 := Lib.hid (HK6.out.trans hk7); clear hc7 hk7
    obtain ⟨hx70, hx71⟩ := hx7
    go_wp2_with fail
    refine (spec_l1Once A 3 w7 HC7.out ⟨by decide, by decide⟩).mono ?_
    rintro e w9 ⟨bn, rfl, hc9, hk9⟩
    have HC9 := Lib.hid hc9; have HI9 := Lib.hid (hk9.is HI7.out (by omega)); have HK9 := Lib.hid (HK7.out.trans hk9); clear hc9 hk9
    cases bn with
    | true =>
     have ff := fun i => HI9.out.frozen i; have lg := HI9.out.lt; obtain ⟨z0, z1⟩ := HI9.out.cells2
     go_wp2_with fail
     obtain ⟨e0, e1, hcf, hkf⟩ := fin2 (.int .i64 (wrap64 (-m))) (.int .i64 x7) HI9.out HK9.out (Nat.le_refl _) HC9.out hlA
     refine bodyPost_ret (v := .agg #[.int .i64 (wrap64 (-m)), .int .i64 x7]) (by simp [results, Tryz.results178, go_sem, e0, e1]) rfl ⟨_, _, (dv_flt HMM.out.1 HMM.out.2.1 HMM.out.2.2 (fun h => absurd h M0.out) (by have := HX7.out; omega) (Or.inr ⟨M1.out, HX7.out.2⟩)).2, wrap_i64 _, ⟨hx70, hx71⟩, rfl, hcf, hkf⟩
    | false =>
     have ff := fun i => HI9.out.frozen i; have lg := HI9.out.lt; obtain ⟨z0, z1⟩ := HI9.out.cells2
     go_wp2_with fail
     obtain ⟨e0, e1, hcf, hkf⟩ := fin2 (.int .i64 (m)) (.int .i64 x7) HI9.out HK9.out (Nat.le_refl _) HC9.out hlA
     refine bodyPost_ret (v := .agg #[.int .i64 (m), .int .i64 x7]) (by simp [results, Tryz.results178, go_sem, e0, e1]) rfl ⟨_, _, (dv_flt HMM.out.1 HMM.out.2.1 HMM.out.2.2 (fun h => absurd h M0.out) (by have := HX7.out; omega) (Or.inr ⟨M1.out, HX7.out.2⟩)).1, ⟨hm0, hm1⟩, ⟨hx70, hx71⟩, rfl, hcf, hkf⟩
   | false =>
    go_wp2_with fail
    refine (spec_l1Once A 3 w6 HC6.out ⟨by decide, by decide⟩).mono ?_
    rintro e w9 ⟨bn, rfl, hc9, hk9⟩
    have HC9 := Lib.hid hc9; have HI9 := Lib.hid (hk9.is HI6.out (by omega)); have HK9 := Lib.hid (HK6.out.trans hk9); clear hc9 hk9
    cases bn with
    | true =>
     have ff := fun i => HI9.out.frozen i; have lg := HI9.out.lt; obtain ⟨z0, z1⟩ := HI9.out.cells2
     go_wp2_with fail
     obtain ⟨e0, e1, hcf, hkf⟩ := fin2 (.int .i64 (wrap64 (-m))) (.int .i64 ex) HI9.out HK9.out (Nat.le_refl _) HC9.out hlA
     refine bodyPost_ret (v := .agg #[.int .i64 (wrap64 (-m)), .int .i64 ex]) (by simp [results, Tryz.results178, go_sem, e0, e1]) rfl ⟨_, _, (dv_flt HMM.out.1 HMM.out.2.1 HMM.out.2.2 (fun h => absurd h M0.out) HEX.out.1 (Or.inl HEX.out.2)).2, wrap_i64 _, ⟨hex0, hex1⟩, rfl, hcf, hkf⟩
    | false =>
     have ff := fun i => HI9.out.frozen i; have lg := HI9.out.lt; obtain ⟨z0, z1⟩ := HI9.out.cells2
     go_wp2_with fail
     obtain ⟨e0, e1, hcf, hkf⟩ := fin2 (.int .i64 (m)) (.int .i64 ex) HI9.out HK9.out (Nat.le_refl _) HC9.out hlA
     refine bodyPost_ret (v := .agg #[.int .i64 (m), .int .i64 ex]) (by simp [results, Tryz.results178, go_sem, e0, e1]) rfl ⟨_, _, (dv_flt HMM.out.1 HMM.out.2.1 HMM.out.2.2 (fun h => absurd h M0.out) HEX.out.1 (Or.inl HEX.out.2)).1, ⟨hm0, hm1⟩, ⟨hex0, hex1⟩, rfl, hcf, hkf⟩
  ·have m1b : (m == 1) = false := by simp [m1]
   have M1 := Lib.hid m1
   clear m1
   go_wp2_with fail
   refine (spec_l1Once A 3 w5 HC5.out ⟨by decide, by decide⟩).mono ?_
   rintro e w9 ⟨bn, rfl, hc9, hk9⟩
   have HC9 := Lib.hid hc9; have HI9 := Lib.hid (hk9.is HI5.out (by omega)); have HK9 := Lib.hid (HK5.out.trans hk9); clear hc9 hk9
   cases bn with
   | true =>
    have ff := fun i => HI9.out.frozen i; have lg := HI9.out.lt; obtain ⟨z0, z1⟩ := HI9.out.cells2
    go_wp2_with fail
    obtain ⟨e0, e1, hcf, hkf⟩ := fin2 (.int .i64 (wrap64 (-m))) (.int .i64 ex) HI9.out HK9.out (Nat.le_refl _) HC9.out hlA
    refine bodyPost_ret (v := .agg #[.int .i64 (wrap64 (-m)), .int .i64 ex]) (by simp [results, Tryz.results178, go_sem, e0, e1]) rfl ⟨_, _, (dv_flt HMM.out.1 HMM.out.2.1 HMM.out.2.2 (fun h => absurd h M0.out) HEX.out.1 (Or.inl HEX.out.2)).2, wrap_i64 _, ⟨hex0, hex1⟩, rfl, hcf, hkf⟩
   | false =>
    have ff := fun i => HI9.out.frozen i; have lg := HI9.out.lt; obtain ⟨z0, z1⟩ := HI9.out.cells2
    go_wp2_with fail
    obtain ⟨e0, e1, hcf, hkf⟩ := fin2 (.int .i64 (m)) (.int .i64 ex) HI9.out HK9.out (Nat.le_refl _) HC9.out hlA
    refine bodyPost_ret (v := .agg #[.int .i64 (m), .int .i64 ex]) (by simp [results, Tryz.results178, go_sem, e0, e1]) rfl ⟨_, _, (dv_flt HMM.out.1 HMM.out.2.1 HMM.out.2.2 (fun h => absurd h M0.out) HEX.out.1 (Or.inl HEX.out.2)).1, ⟨hm0, hm1⟩, ⟨hex0, hex1⟩, rfl, hcf, hkf⟩
end Go.Proofs.YtggdenkmohnijaaGreatDoor
