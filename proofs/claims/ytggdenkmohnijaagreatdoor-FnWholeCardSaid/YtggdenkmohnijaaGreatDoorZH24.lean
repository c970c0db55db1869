/- Texts of this proof, merged: Drw9, MrkR, Once1, LookW. No condition beyond what each theorem states. -/
import Derived.Test.YtggdenkmohnijaaGreatDoorZH23
set_option linter.unusedSimpArgs false
set_option linter.unnecessarySimpa false
namespace Go.Proofs.YtggdenkmohnijaaGreatDoor
open Go.ChangeShapes Go.WideShapes Go.ChangeAt Go.RowKit Go.Joins
set_option linter.unusedVariables false
set_option maxRecDepth 100000
section
variable {α : Type} {E : World → Nat → Nat → α → List Nat → Prop} {n : Nat} {e : TypeId} {nd : Prop}
def EX (X : Nat) (E : World → Nat → Nat → α → List Nat → Prop) (w : World) (b o : Nat) (x : α) (F : List Nat) : Prop := E w b o x F ∧ X ∉ F
theorem EX.elem (X : Nat) (h : Elem E n) : Elem (EX X E) n :=
 ⟨h.pos, fun x {_ _ _ _ _ _ _} hx hc hF => ⟨h.mov x hx.1 hc hF, hx.2⟩, fun x {_ _ _ _} hx => h.cel x hx.1⟩
theorem Row.ex {X : Nat} {w : World} {b : Nat} : ∀ {l : List α} {o : Nat} {F : List Nat}, Row E n w b o l F → X ∉ F → Row (EX X E) n w b o l F := by
 intro l
 induction l with
 | nil => intro o F h _; exact h
 | cons x r ih =>
  intro o F h hX
  obtain ⟨F1, F2, rfl, h1, h2⟩ := h
  simp only [List.mem_append, not_or] at hX
  exact ⟨F1, F2, rfl, ⟨h1, hX.1⟩, ih h2 hX.2⟩
theorem App.ex {X : Nat} {w : World} {lo hi cap : Nat} {a : Option Addr} {l : List α} (h : App E n e nd w lo hi a cap l) (hX : hi ≤ X) : App (EX X E) n e nd w lo hi a cap l := by
 rcases h with h | ⟨g, cur, F, ha, k1, k2, h3, h4, h5, h6, h7, h8, h9, h10⟩
 ·exact Or.inl h
 ·exact Or.inr ⟨g, cur, F, ha, k1, k2, h3, h4, h5, h6, h7.ex (fun hm => by have := (h10 X hm).2.1; omega), h8, h9, h10⟩
def Rq (E : World → Nat → Nat → α → List Nat → Prop) (n : Nat) (w : World) (lo X : Nat) (a : Option Addr) (cap : Nat) (l : List α) : Prop := ∃ F, Sl E n w a cap l F ∧ ∀ f ∈ F, lo ≤ f ∧ f ≠ X ∧ f < w.heap.size
theorem Rq.agree (hE : Loc E n) {w w' : World} {lo X cap : Nat} {a : Option Addr} {l : List α} (h : Rq E n w lo X a cap l) (hw : ∀ f, lo ≤ f → f ≠ X → f < w.heap.size → w'.heap[f]? = w.heap[f]?) (hs : w.heap.size ≤ w'.heap.size) : Rq E n w' lo X a cap l := by
 obtain ⟨F, h1, h2⟩ := h
 exact ⟨F, h1.agree hE (fun f hf => hw f (h2 f hf).1 (h2 f hf).2.1 (h2 f hf).2.2), fun f hf => ⟨(h2 f hf).1, (h2 f hf).2.1, by have := (h2 f hf).2.2; omega⟩⟩
end
set_option maxHeartbeats 4000000 in
theorem spec_l6Val (A : Nat) (w : World) (hc : Cur w A) : Calls Tryz.prog 62 #[.pointer (some ⟨A, 0, none⟩)] w fun e w' => DrewT A 1920 4 w e w' := by
 have hlA := hc.lt
 have HC0 := Lib.hid (hc.below (below1 w (.cells zV 26)) hlA)
 have HK0 := Lib.hid (Kp.alloc (w := w) (Nat.le_of_lt hlA) (.cells zV 26))
 have HI0 := Lib.hid (Is.new w zV 26)
 clear hc
 go_enter Tryz.func62, Tryz.ntmps62
 go_wp2_with fail
 refine (spec_l1Below A 4 _ HC0.out ⟨by decide, by decide⟩).mono ?_
 rintro e w2 ⟨k, rfl, hk, _, hc2, hk2⟩
 have HC2 := Lib.hid hc2; have HI2 := Lib.hid (hk2.is HI0.out (by omega)); have HK2 := Lib.hid (HK0.out.trans hk2); clear hc2 hk2 HI0 HK0 HC0
 have hl2 := HI2.out.lt
 go_wp2_with fail
 refine (spec_l6Draw A k (by omega) w2 HC2.out).mono ?_
 rintro e w3 ⟨t, a, c, rfl, htw, hts, htz, htd, happ, hc3, hk3⟩
 have HTD := Lib.hid htd; clear htd
 have HC3 := Lib.hid hc3; have HI3 := Lib.hid (hk3.is HI2.out (by omega)); have HK3 := Lib.hid (HK2.out.trans hk3); have hs3 := hk3.size; have HA3 := Lib.hid happ; clear hc3 hk3 happ
 have hp := pow4_le k (by omega)
 have ff := fun i => HI3.out.frozen i; have lg := HI3.out.lt; obtain ⟨z0, z1, z2, z3, z4⟩ := HI3.out.cells5
 go_wp2_with fail
 obtain ⟨e0, e1, e2, e3, e4, hcf, hkf, hof, hsf⟩ := fin5 (.int .i64 t.k) (.int .i64 t.n) (.int .i64 t.x) (.string t.s) (.slice a t.l.length c) HI3.out.blk HK3.out (Nat.le_refl _) HC3.out hlA
 refine bodyPost_ret (v := .agg (cV t a c)) (by simp [results, Tryz.results62, go_sem, e0, e1, e2, e3, e4]) rfl ⟨t, a, c, rfl, htw, hts, by omega, HTD.out.more (by omega), ?_, hcf, hkf⟩
 rw [hsf]
 exact (HA3.out.agree TV.elem (fun f h1 _ => hof f (by omega))).more (by omega) (Nat.le_refl _)
def Rn {α : Type} (E : World → Nat → Nat → α → List Nat → Prop) (n : Nat) (w : World) (lo : Nat) (a : Option Addr) (cap : Nat) (l : List α) : Prop := ∃ F, Sl E n w a cap l F ∧ ∀ f ∈ F, lo ≤ f ∧ f < w.heap.size
section
variable {α : Type} {E : World → Nat → Nat → α → List Nat → Prop} {n : Nat} {e : TypeId} {nd : Prop} {w w' : World} {lo cap : Nat} {a : Option Addr} {l : List α}
theorem Rn.agree (hE : Loc E n) (h : Rn E n w lo a cap l) (hw : ∀ f, lo ≤ f → f < w.heap.size → w'.heap[f]? = w.heap[f]?) (hs : w.heap.size ≤ w'.heap.size) : Rn E n w' lo a cap l := by
 obtain ⟨F, h1, h2⟩ := h
 exact ⟨F, h1.agree hE (fun f hf => hw f (h2 f hf).1 (h2 f hf).2), fun f hf => ⟨(h2 f hf).1, by have := (h2 f hf).2; omega⟩⟩
theorem Rn.kp (hE : Loc E n) {A : Nat} (h : Rn E n w lo a cap l) (hk : Kp A w w') (hA : A < lo) : Rn E n w' lo a cap l := h.agree hE (fun f h1 h2 => hk.heap f (by omega) h2) hk.size
theorem Rn.below (hE : Loc E n) {m : Nat} (h : Rn E n w lo a cap l) (hb : Below m w w') (hm : w.heap.size ≤ m) : Rn E n w' lo a cap l := h.agree hE (fun f h1 h2 => hb.block f (by omega)) hb.size
theorem Rn.rd (h : Rn E n w lo a cap l) : Rd E n w w.heap.size a cap l := by
 obtain ⟨F, h1, h2⟩ := h
 exact ⟨F, h1, fun f hf => (h2 f hf).2⟩
theorem Rn.less {lo' : Nat} (h : Rn E n w lo a cap l) (hl : lo' ≤ lo) : Rn E n w lo' a cap l := by
 obtain ⟨F, h1, h2⟩ := h
 exact ⟨F, h1, fun f hf => ⟨by have := (h2 f hf).1; omega, (h2 f hf).2⟩⟩
theorem App.rn {hi : Nat} (h : App E n e True w lo hi a cap l) (hh : hi ≤ w.heap.size) : Rn E n w lo a cap l := by
 obtain ⟨F, h1, _, h2⟩ := h.own
 exact ⟨F, h1, fun f hf => ⟨(h2 f hf).1, by have := (h2 f hf).2.1; omega⟩⟩
theorem Rq.rn {X : Nat} (h : Rq E n w lo X a cap l) : Rn E n w lo a cap l := by
 obtain ⟨F, h1, h2⟩ := h
 exact ⟨F, h1, fun f hf => ⟨(h2 f hf).1, (h2 f hf).2.2⟩⟩
end
theorem emod_256 (n P : Int) (hP : 0 < P) : n % (P * 256) = n % P + P * (n / P % 256) := by
 have h1 : P * (n / P) + n % P = n := Int.mul_ediv_add_emod n P
 have h2 : 256 * (n / P / 256) + n / P % 256 = n / P := Int.mul_ediv_add_emod (n / P) 256
 have h3 : n = (n % P + P * (n / P % 256)) + P * 256 * (n / P / 256) := by
  conv => lhs; rw [← h1, ← h2]
  rw [Int.mul_add, ← Int.mul_assoc]; omega
 have h4 : 0 ≤ n % P := Int.emod_nonneg _ (by omega)
 have h5 : n % P < P := Int.emod_lt_of_pos _ hP
 have h6 : P * (n / P % 256) ≤ P * 255 := Int.mul_le_mul_of_nonneg_left (by omega) (by omega)
 have h7 : 0 ≤ P * (n / P % 256) := Int.mul_nonneg (by omega) (by omega)
 conv => lhs; rw [h3]
 rw [Int.add_mul_emod_self_left, Int.emod_eq_of_lt (by omega) (by omega)]
def beF (a : Int) : List Int → Int
 | [] => a
 | x :: r => beF (a * 256 + x) r
theorem beF_append (a : Int) (l m : List Int) : beF a (l ++ m) = beF (beF a l) m := by
 induction l generalizing a with
 | nil => rfl
 | cons x r ih => rw [List.cons_append, beF, beF, ih]
theorem beF_big (n a : Int) : ∀ w : Nat, beF a (bigL n w) = a * 256 ^ w + n % 256 ^ w
 | 0 => by simp [bigL, beF]
 | w + 1 => by
  rw [bigL, beF, beF_big n _ w]
  have hP : (0 : Int) < 256 ^ w := Int.pow_pos (by decide)
  have e : (256 : Int) ^ (w + 1) = 256 ^ w * 256 := Int.pow_succ ..
  rw [e, emod_256 n _ hP, Int.add_mul, Int.mul_comm (n / 256 ^ w % 256)]
  have : a * (256 ^ w * 256) = a * 256 * 256 ^ w := by rw [Int.mul_assoc, Int.mul_comm 256]
  omega
theorem beF_nonneg : ∀ (l : List Int) (a : Int), 0 ≤ a → (∀ x ∈ l, U8 x) → 0 ≤ beF a l := by
 intro l
 induction l with
 | nil => intro a h _; exact h
 | cons x r ih => intro a h hu; exact ih _ (by have := (hu x (by simp)).1; omega) (fun y hy => hu y (by simp [hy]))
theorem beF_lt : ∀ (l : List Int) (a b : Int), 0 ≤ a → a < b → (∀ x ∈ l, U8 x) → beF a l < b * 256 ^ l.length := by
 intro l
 induction l with
 | nil => intro a b _ h _; simpa [beF] using h
 | cons x r ih =>
  intro a b h0 h hu
  have hx := hu x (by simp)
  have := ih (a * 256 + x) (b * 256) (by have := hx.1; omega) (by have := hx.2; omega) (fun y hy => hu y (by simp [hy]))
  rw [beF, List.length_cons, Int.pow_succ, Int.mul_comm (256 ^ r.length), ← Int.mul_assoc]; exact this
def beN (l : List Int) : Int := beF 0 l
def sgN (w : Nat) (n : Int) : Int := if 2 ^ (8 * w - 1) ≤ n then n - 2 ^ (8 * w) else n
def formD (c : Int) : Int × Nat :=
 if c = 196 then (8, 1) else if c = 197 then (8, 2) else if c = 198 then (8, 4) else if c = 202 then (4, 4)
 else if c = 204 then (3, 1) else if c = 205 then (3, 2) else if c = 206 then (3, 4) else if c = 207 then (3, 8)
 else if c = 208 then (3, 1) else if c = 209 then (3, 2) else if c = 210 then (3, 4) else if c = 211 then (3, 8)
 else if c = 212 then (5, 2) else if c = 217 then (7, 1) else if c = 218 then (7, 2) else if c = 219 then (7, 4)
 else if c = 220 then (9, 2) else if c = 221 then (9, 4) else if c = 222 then (10, 2) else if c = 223 then (10, 4) else (0, 0)
def shortD (c : Int) : Option (Int × Int) :=
 if c < 128 then some (3, c) else if c < 144 then some (10, c - 128) else if c < 160 then some (9, c - 144) else if c < 192 then some (7, c - 160)
 else if c = 192 then some (1, 0) else if c = 194 ∨ c = 195 then some (2, c - 194) else if 224 ≤ c then some (3, c - 256) else none
def argD (c k : Int) (w : Nat) (a : List Int) : Except Int (Int × Int × Nat) :=
  if k = 5 then (if a.getD 0 0 = 1 ∧ a.getD 1 0 ≤ 2 then .ok (5, a.getD 1 0, 3) else .error 1)
  else if k = 4 then (if (bitsFltD (beN a)).2 = true then .ok (4, fltBitsD (bitsFltD (beN a)).1.1 (bitsFltD (beN a)).1.2, 5) else .error 1)
  else if k = 3 then
    (if 208 ≤ c then (if -1000000000000000 ≤ sgN w (beN a) ∧ sgN w (beN a) ≤ 1000000000000000 then .ok (3, sgN w (beN a), w + 1) else .error 2)
     else (if beN a ≤ 1000000000000000 then .ok (3, beN a, w + 1) else .error 2))
  else (if beN a ≤ 65535 then .ok (k, beN a, w + 1) else .error 2)
def markR : List Int → Except Int (Int × Int × Nat)
 | [] => .error 1
 | c :: r =>
  match shortD c with
  | some (k, n) => .ok (k, n, 1)
  | none => if (formD c).1 = 0 ∨ r.length < (formD c).2 then .error 1 else argD c (formD c).1 (formD c).2 (r.take (formD c).2)
def rdMany (f : List Int → Except Int (T × Nat)) : Nat → List Int → Except Int (List T × Nat)
 | 0, _ => .ok ([], 0)
 | k + 1, l =>
  match f l with
  | .error c => .error c
  | .ok (t, u) =>
   match rdMany f k (l.drop u) with
   | .error c => .error c
   | .ok (ts, v) => .ok (t :: ts, u + v)
def rdP : Nat → List Int → Except Int (T × Nat)
  | 0, _ => .error 2
  | d + 1, l =>
    match markR l with
    | .error c => .error c
    | .ok (k, n, u) =>
      if k = 4 then .ok (.mk 4 (bitsFltD n).1.1 (bitsFltD n).1.2 ⟨#[]⟩ [], u)
      else if k = 7 ∨ k = 8 then
        (if ((l.length - u : Nat) : Int) < n then .error 1
         else if k = 7 ∧ Lib.validD (strOfNums ((l.drop u).take n.toNat)).data.toList = false then .error 1
         else .ok (.mk k 0 0 (strOfNums ((l.drop u).take n.toNat)) [], u + n.toNat))
      else if k = 9 ∨ k = 10 then
        (match rdMany (rdP d) (if k = 10 then 2 * n.toNat else n.toNat) (l.drop u) with
         | .error c => .error c
         | .ok (ts, v) => .ok (.mk k 0 0 ⟨#[]⟩ ts, u + v))
      else .ok (.mk k n 0 ⟨#[]⟩ [], u)
theorem beN_big (n : Int) (w : Nat) : beN (bigL n w) = n % 256 ^ w := by unfold beN; rw [beF_big]; omega
theorem beN_id (n : Int) (w : Nat) (h0 : 0 ≤ n) (h1 : n < 256 ^ w) : beN (bigL n w) = n := by rw [beN_big, Int.emod_eq_of_lt h0 h1]
theorem take_big (n : Int) (w : Nat) (r : List Int) : (bigL n w ++ r).take w = bigL n w := by
 rw [List.take_append_of_le_length (by rw [bigL_len]; exact Nat.le_refl _), List.take_of_length_le (by rw [bigL_len]; exact Nat.le_refl _)]
theorem markR_form (c k : Int) (w : Nat) (b r : List Int) (hs : shortD c = none) (hf : formD c = (k, w)) (hk : k ≠ 0) (hb : b.length = w) : markR (c :: (b ++ r)) = argD c k w b := by
 unfold markR
 simp only [hs, hf]
 rw [if_neg (by rintro (h | h); exact hk h; rw [List.length_append] at h; omega), List.take_append_of_le_length (by omega), List.take_of_length_le (by omega)]
theorem shortD_none {c : Int} (h : 196 ≤ c ∧ c ≤ 223) : shortD c = none := by
 unfold shortD
 rw [if_neg (by omega), if_neg (by omega), if_neg (by omega), if_neg (by omega), if_neg (by omega), if_neg (by omega), if_neg (by omega)]
theorem markR_int {n : Int} (h0 : -1000000000000000 ≤ n) (h1 : n ≤ 1000000000000000) (r : List Int) : markR (putIntL n ++ r) = .ok (3, n, (putIntL n).length) := by
 unfold putIntL
 by_cases c1 : -32 ≤ n ∧ n ≤ 127
 ·rw [if_pos c1]
  simp only [List.cons_append, List.nil_append, List.length_cons, List.length_nil]
  unfold markR
  by_cases c2 : 0 ≤ n
  ·have : n % 256 = n := by omega
   rw [this]
   simp only [shortD, if_pos (show n < 128 by omega)]
  ·have : n % 256 = n + 256 := by omega
   rw [this]
   simp only [shortD]
   rw [if_neg (by omega), if_neg (by omega), if_neg (by omega), if_neg (by omega), if_neg (by omega), if_neg (by omega), if_pos (by omega)]
   simp only
   rw [show n + 256 - 256 = n from by omega]
 rw [if_neg c1]
 have key : ∀ (c : Int) (w : Nat), formD c = (3, w) → 204 ≤ c → c ≤ 207 → 0 ≤ n → n < 256 ^ w → markR (c :: bigL n w ++ r) = .ok (3, n, (c :: bigL n w).length) := by
  intro c w hf hc0 hc1 hn hw
  rw [List.cons_append, markR_form c 3 w _ r (shortD_none (by omega)) hf (by decide) (bigL_len _ _)]
  unfold argD
  rw [if_neg (by decide), if_neg (by decide), if_pos rfl, if_neg (by omega), beN_id n w hn hw, if_pos h1, List.length_cons, bigL_len]
 have keyN : ∀ (c : Int) (w : Nat), formD c = (3, w) → 208 ≤ c → c ≤ 211 → n < 0 → -(2 ^ (8 * w - 1)) ≤ n → (256 : Int) ^ w = 2 ^ (8 * w) → (2 : Int) ^ (8 * w) = 2 * 2 ^ (8 * w - 1) → markR (c :: bigL n w ++ r) = .ok (3, n, (c :: bigL n w).length) := by
  intro c w hf hc0 hc1 hn hw e1 e2
  have hP : (0 : Int) < 2 ^ (8 * w - 1) := Int.pow_pos (by decide)
  have hm : beN (bigL n w) = n + 2 ^ (8 * w) := by
   rw [beN_big, e1, ← Int.add_emod_right, Int.emod_eq_of_lt (by omega) (by omega)]
  have hs : sgN w (beN (bigL n w)) = n := by
   unfold sgN
   rw [hm, if_pos (by omega)]; omega
  rw [List.cons_append, markR_form c 3 w _ r (shortD_none (by omega)) hf (by decide) (bigL_len _ _)]
  unfold argD
  rw [if_neg (by decide), if_neg (by decide), if_pos rfl, if_pos hc0, hs, if_pos ⟨h0, h1⟩, List.length_cons, bigL_len]
 by_cases c2 : 0 ≤ n
 ·rw [if_pos c2]
  by_cases d1 : n < 256
  ·have hw : widthD n = 1 := by unfold widthD; rw [if_neg (by omega), if_pos d1]
   rw [hw]; exact key 204 1 rfl (by decide) (by decide) c2 (by omega)
  by_cases d2 : n < 65536
  ·have hw : widthD n = 2 := by unfold widthD; rw [if_neg (by omega), if_neg d1, if_pos d2]
   rw [hw]; exact key 205 2 rfl (by decide) (by decide) c2 (by omega)
  by_cases d3 : n < 4294967296
  ·have hw : widthD n = 4 := by unfold widthD; rw [if_neg (by omega), if_neg d1, if_neg d2, if_pos d3]
   rw [hw]; exact key 206 4 rfl (by decide) (by decide) c2 (by omega)
  ·have hw : widthD n = 8 := by unfold widthD; rw [if_neg (by omega), if_neg d1, if_neg d2, if_neg d3]
   rw [hw]; exact key 207 8 rfl (by decide) (by decide) c2 (by omega)
 ·rw [if_neg c2]
  unfold intW
  by_cases d1 : -128 ≤ n
  ·rw [if_pos d1]; exact keyN 208 1 rfl (by decide) (by decide) (by omega) (by simpa using d1) (by decide) (by decide)
  rw [if_neg d1]
  by_cases d2 : -32768 ≤ n
  ·rw [if_pos d2]; exact keyN 209 2 rfl (by decide) (by decide) (by omega) (by simpa using d2) (by decide) (by decide)
  rw [if_neg d2]
  by_cases d3 : -2147483648 ≤ n
  ·rw [if_pos d3]; exact keyN 210 4 rfl (by decide) (by decide) (by omega) (by simpa using d3) (by decide) (by decide)
  ·rw [if_neg d3]; exact keyN 211 8 rfl (by decide) (by decide) (by omega) (by simp; omega) (by decide) (by decide)
theorem markR_many {k n few base short long : Int} (r : List Int) (h0 : 0 ≤ n) (h1 : n ≤ 65535) (hf : n < few → shortD (base + n) = some (k, n)) (hs : 0 < short → formD short = (k, 1) ∧ 196 ≤ short ∧ short ≤ 223) (hl : formD long = (k, 2) ∧ 196 ≤ long ∧ long ≤ 223)
  (hk : k = 7 ∨ k = 8 ∨ k = 9 ∨ k = 10) : markR (putManyL n few base short long ++ r) = .ok (k, n, (putManyL n few base short long).length) := by
 have arg : ∀ (c : Int) (w : Nat), n < 256 ^ w → argD c k w (bigL n w) = .ok (k, n, w + 1) := by
  intro c w hw
  unfold argD
  rw [if_neg (by omega), if_neg (by omega), if_neg (by omega), beN_id n w h0 hw, if_pos h1]
 unfold putManyL
 by_cases c1 : n < few
 ·rw [if_pos c1]
  simp only [List.cons_append, List.nil_append, markR, hf c1, List.length_cons, List.length_nil]
 rw [if_neg c1]
 by_cases c2 : n < 256 ∧ 0 < short
 ·rw [if_pos c2, List.cons_append, markR_form short k 1 _ r (shortD_none (hs c2.2).2) (hs c2.2).1 (by omega) (bigL_len _ _), arg short 1 (by omega), List.length_cons, bigL_len]
 ·rw [if_neg c2, List.cons_append, markR_form long k 2 _ r (shortD_none hl.2) hl.1 (by omega) (bigL_len _ _), arg long 2 (by omega), List.length_cons, bigL_len]
theorem markR_ok {k n : Int} (h : markOkD k n = true) (r : List Int) : markR (markL k n ++ r) = .ok (k, n, (markL k n).length) := by
 unfold markL
 rw [if_neg (by rw [h]; decide)]
 unfold markOkD at h
 by_cases k1 : k = 1
 ·subst k1; rw [if_pos rfl] at h ⊢; have := of_decide_eq_true h; subst this; rfl
 rw [if_neg k1] at h ⊢
 by_cases k2 : k = 2
 ·subst k2; rw [if_pos rfl] at h ⊢; have := of_decide_eq_true h
  obtain rfl | rfl : n = 0 ∨ n = 1 := by omega
  ·rfl
  ·rfl
 rw [if_neg k2] at h ⊢
 by_cases k3 : k = 3
 ·subst k3; rw [if_pos rfl] at h ⊢; have := of_decide_eq_true h; exact markR_int this.1 this.2 r
 rw [if_neg k3] at h ⊢
 by_cases k4 : k = 4
 ·subst k4; rw [if_pos rfl] at h ⊢
  rw [Bool.and_eq_true] at h
  have h2 := of_decide_eq_true h.2
  have hb : 0 ≤ n ∧ n ≤ 33554431 := by
   have h1 := h.1; unfold bitsFltD at h1
   by_cases c : 0 ≤ n ∧ n ≤ 33554431
   ·exact c
   ·rw [if_neg c] at h1; cases h1
  have hid : beN (bigL n 4) = n := beN_id n 4 hb.1 (by omega)
  rw [List.cons_append, markR_form 202 4 4 _ r rfl rfl (by decide) (bigL_len _ _)]
  unfold argD
  rw [if_neg (by decide), if_pos rfl, hid, if_pos h.1, h2, List.length_cons, bigL_len]
 rw [if_neg k4] at h ⊢
 by_cases k5 : k = 5
 ·subst k5; rw [if_pos rfl] at h ⊢; have hn := of_decide_eq_true h
  have e : [212, 1, n] ++ r = 212 :: ([1, n] ++ r) := rfl
  rw [e, markR_form 212 5 2 [1, n] r rfl rfl (by decide) rfl]
  unfold argD
  rw [if_pos rfl, if_pos ⟨rfl, hn.2⟩]; rfl
 rw [if_neg k5] at h ⊢
 by_cases k7 : k = 7
 ·subst k7; rw [if_pos (Or.inl rfl)] at h; rw [if_pos rfl]
  have hn := of_decide_eq_true h
  refine markR_many r hn.1 hn.2 (fun hf => ?_) (fun _ => ⟨rfl, by decide, by decide⟩) ⟨rfl, by decide, by decide⟩ (Or.inl rfl)
  unfold shortD
  rw [if_neg (by omega), if_neg (by omega), if_neg (by omega), if_pos (by omega)]
  rw [show 160 + n - 160 = n from by omega]
 rw [if_neg k7]
 by_cases k8 : k = 8
 ·subst k8; rw [if_pos (Or.inr (Or.inl rfl))] at h; rw [if_pos rfl]
  have hn := of_decide_eq_true h
  exact markR_many r hn.1 hn.2 (fun hf => by omega) (fun _ => ⟨rfl, by decide, by decide⟩) ⟨rfl, by decide, by decide⟩ (Or.inr (Or.inl rfl))
 rw [if_neg k8]
 by_cases k9 : k = 9
 ·subst k9; rw [if_pos (Or.inr (Or.inr (Or.inl rfl)))] at h; rw [if_pos rfl]
  have hn := of_decide_eq_true h
  refine markR_many r hn.1 hn.2 (fun hf => ?_) (fun h => absurd h (by decide)) ⟨rfl, by decide, by decide⟩ (Or.inr (Or.inr (Or.inl rfl)))
  unfold shortD
  rw [if_neg (by omega), if_neg (by omega), if_pos (by omega)]
  rw [show 144 + n - 144 = n from by omega]
 rw [if_neg k9]
 by_cases k10 : k = 10
 ·subst k10; rw [if_pos (Or.inr (Or.inr (Or.inr rfl)))] at h
  have hn := of_decide_eq_true h
  refine markR_many r hn.1 hn.2 (fun hf => ?_) (fun h => absurd h (by decide)) ⟨rfl, by decide, by decide⟩ (Or.inr (Or.inr (Or.inr rfl)))
  unfold shortD
  rw [if_neg (by omega), if_pos (by omega)]
  rw [show 128 + n - 128 = n from by omega]
 ·rw [if_neg (by omega)] at h; cases h
def pairedB (t : T) : Bool := decide (t.k = 10) && decide (t.l.length % 2 = 0)
theorem spec_l7Map (t : T) (a : Option Addr) (cap : Nat) (w : World) (hl : t.l.length ≤ 1073741824) :
  Calls Tryz.prog 175 #[.agg (cV t a cap)] w fun e w' => e = .returned (.bool (pairedB t)) ∧ Below w.heap.size w w' := by
 obtain ⟨k, n, x, s, l⟩ := t
 simp only [cV, T.k, T.n, T.x, T.s, T.l, pairedB] at hl ⊢
 by_cases hk : k = 10
 ·subst hk
  by_cases h2 : l.length % 2 = 0
  ·have h3 : ((l.length : Int) % 2 == 0) = true := by simp; omega
   have HB := Lib.hid h2; clear h2
   go_enter Tryz.func175, Tryz.ntmps175
   go_wp2
   go_ret
   exact ⟨ret_b (by simp [HB.out]), by go_grown⟩
  ·have h3 : ((l.length : Int) % 2 == 0) = false := by simp; omega
   have HB := Lib.hid h2; clear h2
   go_enter Tryz.func175, Tryz.ntmps175
   go_wp2
   go_ret
   exact ⟨ret_b (by simp [HB.out]), by go_grown⟩
 ·have hq : (k == 10) = false := by simp [hk]
  have HK := Lib.hid hk; clear hk
  go_enter Tryz.func175, Tryz.ntmps175
  go_wp2
  go_ret
  exact ⟨ret_b (by simp [HK.out]), by go_grown⟩
theorem evN_get2 (l : List T) : ∀ p, 2 * p ≤ l.length + 1 → ∀ o ∈ evN l p, ∃ i, ∃ h : i < l.length, i % 2 = 0 ∧ o = l[i] := by
 intro p
 induction p with
 | zero => intro _ o ho; simp [evN] at ho
 | succ p ih =>
  intro hp o ho
  rw [evN_succ l p (2 * p) rfl (by omega)] at ho
  rcases List.mem_append.1 ho with h | h
  ·exact ih (by omega) o h
  ·rw [List.mem_singleton] at h
   exact ⟨2 * p, by omega, by omega, h⟩
theorem evN_has (l : List T) (i : Nat) (h : i < l.length) (h2 : i % 2 = 0) : ∀ p, i < 2 * p → 2 * p ≤ l.length + 1 → l[i] ∈ evN l p := by
 intro p
 induction p with
 | zero => intro h; omega
 | succ p ih =>
  intro hi hp
  rw [evN_succ l p (2 * p) rfl (by omega)]
  by_cases e : i = 2 * p
  ·subst e; simp
  ·exact List.mem_append_left _ (ih (by omega) (by omega))
def hasP (l : List T) (u : T) : Bool := (evN l (l.length / 2)).any fun o => sameT o u
theorem hasP_true {l : List T} {u : T} (i : Nat) (h : i < l.length) (h2 : i % 2 = 0) (he : l.length % 2 = 0) (hs : sameT l[i] u = true) : hasP l u = true := by
 unfold hasP
 rw [List.any_eq_true]
 exact ⟨l[i], evN_has l i h h2 _ (by omega) (by omega), hs⟩
theorem hasP_false {l : List T} {u : T} (hs : ∀ q, (h : 2 * q < l.length) → sameT l[2 * q] u = false) : hasP l u = false := by
 unfold hasP
 rw [List.any_eq_false]
 intro o ho
 obtain ⟨i, hi, h2, rfl⟩ := evN_get2 l _ (by omega) o ho
 obtain ⟨q, rfl⟩ : ∃ q, i = 2 * q := ⟨i / 2, by omega⟩
 rw [hs q hi]; simp
set_option maxHeartbeats 8000000 in
theorem spec_Lookup (l : List T) (u : T) (n x : Int) (s : ByteArray) (a a2 : Option Addr) (cap cap2 B : Nat) (w : World) (hr : R w B a cap l) (hu : R w B a2 cap2 u.l) (hB : B ≤ w.heap.size) (hev : l.length % 2 = 0) (hct : T.countL l ≤ 1073741824) :
  Calls Tryz.prog 112 #[.agg #[.int .i64 10, .int .i64 n, .int .i64 x, .string s, .slice a l.length cap], .agg (cV u a2 cap2)] w fun e w' => ∃ (t : T) (a' : Option Addr) (cap' : Nat), e = .returned (.tuple #[.agg (cV t a' cap'), .bool (hasP l u)]) ∧ Below w.heap.size w w' := by
 obtain ⟨hl1, hl2⟩ := hr.len
 have hlc := T.length_le_countL l
 have HR := Lib.hid hr; have HU := Lib.hid hu; clear hr hu
 have HCT := Lib.hid hct
 have HPD := Lib.hid (show pairedB (.mk 10 n x s l) = true from by simp [pairedB, T.k, T.l, hev])
 have HHT := Lib.hid (fun i h h2 hs => hasP_true (l := l) (u := u) i h h2 hev hs)
 have HHF := Lib.hid (fun hs => hasP_false (l := l) (u := u) hs)
 generalize hasP l u = hp at *
 go_enter Tryz.func112, Tryz.ntmps112
 go_wp2_with fail
 generalize hW : ((w.alloc (Obj.cells #[Value.int IntKind.i64 10, Value.int IntKind.i64 n, Value.int IntKind.i64 x, Value.string s, Value.slice a l.length cap] 26)).alloc (Obj.cells (cV u a2 cap2) 26)).alloc (Obj.cells zV 26) = W0
 have q1 : Is W0 w.heap.size 26 #[Value.int IntKind.i64 10, Value.int IntKind.i64 n, Value.int IntKind.i64 x, Value.string s, Value.slice a l.length cap] := by subst hW; exact ((Is.new _ _ _).alloc _).alloc _
 have q2 : Is W0 (w.heap.size + 1) 26 (cV u a2 cap2) := by subst hW; exact (Is.new2 _ _ _ _).alloc _
 have q3 : Is W0 (w.heap.size + 1 + 1) 26 zV := by subst hW; exact Is.new3 _ _ _ _ _
 have hs0 : W0.heap.size = w.heap.size + 3 := by subst hW; simp
 have H0 := Lib.hid (show Below w.heap.size w W0 from by subst hW; exact below3 _ _ _ _)
 clear hW
 have hpl : (l.length = 0) ∨ (∃ q, l.length = 2 * q + 2) := by
  by_cases h : l.length = 0
  ·exact Or.inl h
  ·exact Or.inr ⟨l.length / 2 - 1, by omega⟩
 go_loopw [6] (fun i wr => ∃ p : Nat, 2 * p ≤ l.length ∧ ((p = 0 ∧ i = .int .i64 (-2)) ∨ (∃ q j : Nat, p = q + 1 ∧ j = 2 * q ∧ i = .int .i64 (j : Int))) ∧ (∀ q, p ≤ q → (h : 2 * q < l.length) → sameT l[2 * q] u = false) ∧ Below W0.heap.size W0 wr) (fun i _ => ((intOf i) + 2).toNat)
 case atStart =>
  refine ⟨l.length / 2, by omega, ?_, fun q h1 h2 => by omega, Below.refl _ _⟩
  rcases hpl with h | ⟨q, h⟩
  ·exact Or.inl ⟨by omega, by rw [h]; rfl⟩
  ·exact Or.inr ⟨q, 2 * q, by omega, rfl, congrArg (Value.int .i64) (by omega)⟩
 case round =>
  obtain ⟨p, hp1, hpi, hno, hb⟩ := hrel
  have hbs := hb.size
  have HNO := Lib.hid hno; clear hno
  have p1 := q1.below hb (by omega)
  have p2 := q2.below hb (by omega)
  have p3 := q3.below hb (by omega)
  have hlb1 : w.heap.size < wr.heap.size := by omega
  have hlb2 : w.heap.size + 1 < wr.heap.size := by omega
  have hlb3 : w.heap.size + 1 + 1 < wr.heap.size := by omega
  obtain ⟨r0, r1, r2, r3, r4⟩ := p1.cells5
  obtain ⟨u0, u1, u2, u3, u4⟩ := p2.cells5
  have P3 := Lib.hid p3
  have HB := Lib.hid (show Below w.heap.size w wr from H0.out.trans (hb.mono (by omega)))
  have HBB := Lib.hid hb
  clear p3 hb
  rcases hpi with ⟨rfl, rfl⟩ | ⟨q, j, rfl, hj, rfl⟩
  ·have f3 := fun i => P3.out.frozen i
   obtain ⟨o0, o1, o2, o3, o4⟩ := P3.out.cells5
   go_wp2_with fail
   obtain ⟨e0, e1, e2, e3, e4, hbel, hold, hsz⟩ := out5 P3.out.blk (.int .i64 0) (.int .i64 0) (.int .i64 0) (.string ⟨#[]⟩) (.slice none 0 0) w.heap.size (by omega)
   refine bodyPost_ret (v := .tuple #[.agg zV, .bool false]) (by simp [results, Tryz.results112, go_sem, e0, e1, e2, e3, e4]) rfl ⟨.mk 0 0 0 ⟨#[]⟩ [], none, 0, by rw [HHF.out (fun q h => HNO.out q (Nat.zero_le _) h)]; rfl, HB.out.trans hbel⟩
  ·have hq1 : j + 1 < l.length := by omega
   have hq0 : j < l.length := by omega
   have HJ := Lib.hid hj
   have HRR := Lib.hid (HR.out.below HB.out hB)
   have HUU := Lib.hid (HU.out.below HB.out hB)
   obtain ⟨b, o, a3, cap3, hae, hbl, d0, d1, d2, d3, d4, hwf, hrq⟩ := HRR.out.get j hq0
   obtain ⟨b', o', a4, cap4, hae', hbl', g0, g1, g2, g3, g4, hwf', hrq'⟩ := HRR.out.get (j + 1) hq1
   subst hae
   cases hae'
   have hlb : b < wr.heap.size := by omega
   have HC1 := Lib.hid (T.count_get l (j + 1) hq1)
   have HTT := Lib.hid (fun h => HHT.out j hq0 (by omega) h)
   have HNX := Lib.hid (fun (h : sameT l[j] u = false) (q' : Nat) (h1 : q ≤ q') (h2 : 2 * q' < l.length) => (show sameT l[2 * q'] u = false from by
    by_cases e : q' = q
    ·subst e; simpa [hj] using h
    ·exact HNO.out q' (by omega) h2))
   have HW1 := Lib.hid hwf'; have HQ1 := Lib.hid hrq'; have HQ0 := Lib.hid hrq
   clear hwf hwf' hrq hrq'
   have hq3 : (j : Int) < (l.length : Int) := by omega
   have hq4 : (j : Int) + 1 < (l.length : Int) := by omega
   have HJ2 := Lib.hid (show j % 2 = 0 from by omega)
   clear hj hp1
   go_wp2_with (go_at_call 175; refine (spec_l7Map (.mk 10 n x s l) (some ⟨b, o, none⟩) cap _ (by simp only [T.l]; omega)).mono ?_; rintro e v1 ⟨rfl, hv1⟩; rw [HPD.out])
   have hv1s := hv1.size
   have HV1 := Lib.hid hv1; clear hv1
   have p11 := p1.below HV1.out (by omega); have p22 := p2.below HV1.out (by omega)
   obtain ⟨r0, r1, r2, r3, r4⟩ := p11.cells5
   obtain ⟨u0, u1, u2, u3, u4⟩ := p22.cells5
   have hlb1 : w.heap.size < v1.heap.size := by omega
   have hlb2 : w.heap.size + 1 < v1.heap.size := by omega
   have hlb : b < v1.heap.size := by omega
   have hcell : ∀ i, v1.cell? ⟨b, i, none⟩ = wr.cell? ⟨b, i, none⟩ := fun i => World.cell?_of_block (HV1.out.block b (by omega))
   rw [← hcell] at d0 d1 d2 d3 d4 g0 g1 g2 g3 g4
   have P11 := Lib.hid p11
   have HRV := Lib.hid (HRR.out.below HV1.out (by omega))
   clear hcell p1 p2 p11 p22
   have HQ0' := Lib.hid (HQ0.out.below HV1.out (by omega)); have HQ1' := Lib.hid (HQ1.out.below HV1.out (by omega)); have HU' := Lib.hid (HUU.out.below HV1.out (by omega))
   have P3' := Lib.hid (P3.out.below HV1.out (by omega))
   obtain ⟨sb, hsb⟩ : ∃ e, sameT l[j] u = e := ⟨_, rfl⟩
   have HSB := Lib.hid hsb; clear hsb
   go_upto_region 4 with (fail)
   refine tkW (v1.heap.size) v1 (fun hHeld => ?_)
   refine tkS 0 19 rfl ?_
   refine tkS 1 20 rfl ?_
   refine tkS 2 21 rfl ?_
   refine tkS 3 22 rfl ?_
   refine tkS 4 23 rfl ?_
   refine tkS 5 24 rfl ?_
   refine tkA 6 25 rfl (fun K hK => ?_)
   go_simp; (first | (go_at_call 176; refine (spec_SameVal l[j] u _ _ _ _ B _ (HQ0'.out.below (‹_ ∧ Below (v1.heap.size) v1 _›).2 (by omega)) (HU'.out.below (‹_ ∧ Below (v1.heap.size) v1 _›).2 (by omega)) (by have := (‹_ ∧ Below (v1.heap.size) v1 _›).2.size; omega)).mono ?_; rintro e v2 ⟨rfl, hv2⟩; rw [HSB.out])); go_wp2_with fail; refine tkK hK (fun hHeld => ?_); clear hK K
   refine tkE ?_
   have hv2s := (‹_ ∧ Below (v1.heap.size) v1 _›).2.size
   have HV2 := Lib.hid (‹_ ∧ Below (v1.heap.size) v1 _›).2
   clear hHeld hv2
   have P3'' := Lib.hid (P3'.out.below HV2.out (by omega))
   cases sb with
   | false =>
    have ff := fun i => P3''.out.frozen i
    go_wp2_with fail
    go_roundw
    case rel =>
     refine ⟨q, by have := HJ.out; omega, ?_, HNX.out HSB.out, ?_⟩
     ·by_cases h0 : q = 0
      ·exact Or.inl ⟨h0, by subst h0; have := HJ.out; subst this; rfl⟩
      ·exact Or.inr ⟨q - 1, 2 * (q - 1), by omega, rfl, by first | go_num | exact congrArg (Value.int .i64) (by have := HJ.out; omega)⟩
     ·exact HBB.out.trans ((HV1.out.mono (by omega)).trans (HV2.out.mono (by omega)))
    case measure => have := HJ.out; simp [intOf]; omega
   | true =>
    clear r0 r1 r2 r3 r4 u0 u1 u2 u3 u4 d0 d1 d2 d3 d4 g0 g1 g2 g3 g4 hlb1 hlb2 hlb3 hlb
    obtain ⟨r0, r1, r2, r3, r4⟩ := (P11.out.below HV2.out (by omega)).cells5
    obtain ⟨j1, hj1⟩ : ∃ j1, j + 1 = j1 := ⟨_, rfl⟩
    have hji : (j : Int) + 1 = (j1 : Int) := by omega
    have hq5 : j1 < l.length := by omega
    have HC1' := Lib.hid (show T.count l[j1] ≤ T.countL l from T.count_get l j1 hq5)
    obtain ⟨b2, o2, a5, cap5, hae, hbl2, g0, g1, g2, g3, g4, hwf, hrq⟩ := (HRV.out.below HV2.out (by omega)).get j1 hq5
    cases hae
    clear HW1 HQ1 HQ1' HC1 hj1 hq1
    have HW1 := Lib.hid hwf; have HQ1 := Lib.hid hrq; clear hwf hrq
    have hlb1 : w.heap.size < v2.heap.size := by omega
    have hlb : b < v2.heap.size := by omega
    rw [hji] at hq4
    go_wp2_with fail
    refine (spec_l6Copy l[j1] a5 cap5 B _ HQ1.out HW1.out (by omega) (by have := HC1'.out; have := HCT.out; omega)).mono ?_
    rintro e v3 ⟨a6, cap6, rfl, _, hv3⟩
    have p3 := P3''.out.below hv3 (by omega)
    have f3 := fun i => p3.frozen i
    have hv3s := hv3.size
    have hlb3 : w.heap.size + 1 + 1 < v3.heap.size := by omega
    obtain ⟨o0, o1, o2', o3, o4⟩ := p3.cells5
    go_wp2_with fail
    obtain ⟨e0, e1, e2, e3, e4, hbel, hold, hsz⟩ := out5 p3.blk (.int .i64 l[j1].k) (.int .i64 l[j1].n) (.int .i64 l[j1].x) (.string l[j1].s) (.slice a6 l[j1].l.length cap6) w.heap.size (by omega)
    refine bodyPost_ret (v := .tuple #[.agg (cV l[j1] a6 cap6), .bool true]) (by simp [results, Tryz.results112, go_sem, e0, e1, e2, e3, e4]) rfl ⟨l[j1], a6, cap6, by rw [HTT.out HSB.out], ((HB.out.trans (HV1.out.mono (by omega))).trans ((HV2.out.mono (by omega)).trans (hv3.mono (by omega)))).trans hbel⟩
end Go.Proofs.YtggdenkmohnijaaGreatDoor
