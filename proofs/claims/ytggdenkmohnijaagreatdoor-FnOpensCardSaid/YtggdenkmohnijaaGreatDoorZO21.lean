/- Texts of this proof, merged: LookW, PkP, PkW, DrwK, RdP. No condition beyond what each theorem states. -/
import Derived.Test.YtggdenkmohnijaaGreatDoorZO20
set_option linter.unusedSimpArgs false
set_option linter.unnecessarySimpa false
namespace Go.Proofs.YtggdenkmohnijaaGreatDoor
open Go.ChangeShapes Go.WideShapes Go.ChangeAt Go.RowKit Go.Joins
set_option linter.unusedVariables false
set_option maxRecDepth 100000
theorem evN_get2 (l : List T) : ∀ p, 2 * p ≤ l.length + 1 → ∀ o ∈ evN l p, ∃ i, ∃ h : i < l.length, i % 2 = 0 ∧ o = l[i] := by
 intro p
 induction p with
 | zero => intro _ o ho; simp [evN] at ho
 | succ p ih =>
  intro hp o ho
  rw [evN_succ l p (2 * p) rfl (by omega)] at ho
  rcases List.mem_append.1 ho with h | h
  ·exact ih (by omega) o h
  ·rw [List.mem_singleton] at h
   exact ⟨2 * p, by omega, by omega, h⟩
theorem evN_has (l : List T) (i : Nat) (h : i < l.length) (h2 : i % 2 = 0) : ∀ p, i < 2 * p → 2 * p ≤ l.length + 1 → l[i] ∈ evN l p := by
 intro p
 induction p with
 | zero => intro h; omega
 | succ p ih =>
  intro hi hp
  rw [evN_succ l p (2 * p) rfl (by omega)]
  by_cases e : i = 2 * p
  ·subst e; simp
  ·exact List.mem_append_left _ (ih (by omega) (by omega))
def hasP (l : List T) (u : T) : Bool := (evN l (l.length / 2)).any fun o => sameT o u
theorem hasP_true {l : List T} {u : T} (i : Nat) (h : i < l.length) (h2 : i % 2 = 0) (he : l.length % 2 = 0) (hs : sameT l[i] u = true) : hasP l u = true := by
 unfold hasP
 rw [List.any_eq_true]
 exact ⟨l[i], evN_has l i h h2 _ (by omega) (by omega), hs⟩
theorem hasP_false {l : List T} {u : T} (hs : ∀ q, (h : 2 * q < l.length) → sameT l[2 * q] u = false) : hasP l u = false := by
 unfold hasP
 rw [List.any_eq_false]
 intro o ho
 obtain ⟨i, hi, h2, rfl⟩ := evN_get2 l _ (by omega) o ho
 obtain ⟨q, rfl⟩ : ∃ q, i = 2 * q := ⟨i / 2, by omega⟩
 rw [hs q hi]; simp
set_option maxHeartbeats 8000000 in
theorem spec_Lookup (l : List T) (u : T) (n x : Int) (s : ByteArray) (a a2 : Option Addr) (cap cap2 B : Nat) (w : World) (hr : R w B a cap l) (hu : R w B a2 cap2 u.l) (hB : B ≤ w.heap.size) (hev : l.length % 2 = 0) (hct : T.countL l ≤ 1073741824) :
  Calls Tryz.prog 112 #[.agg #[.int .i64 10, .int .i64 n, .int .i64 x, .string s, .slice a l.length cap], .agg (cV u a2 cap2)] w fun e w' => ∃ (t : T) (a' : Option Addr) (cap' : Nat), e = .returned (.tuple #[.agg (cV t a' cap'), .bool (hasP l u)]) ∧ Below w.heap.size w w' := by
 obtain ⟨hl1, hl2⟩ := hr.len
 have hlc := T.length_le_countL l
 have HR := Lib.hid hr; have HU := Lib.hid hu; clear hr hu
 have HCT := Lib.hid hct
 have HPD := Lib.hid (show pairedB (.mk 10 n x s l) = true from by simp [pairedB, T.k, T.l, hev])
 have HHT := Lib.hid (fun i h h2 hs => hasP_true (l := l) (u := u) i h h2 hev hs)
 have HHF := Lib.hid (fun hs => hasP_false (l := l) (u := u) hs)
 generalize hasP l u = hp at *
 go_enter Tryz.func112, Tryz.ntmps112
 go_wp2_with fail
 generalize hW : ((w.alloc (Obj.cells #[Value.int IntKind.i64 10, Value.int IntKind.i64 n, Value.int IntKind.i64 x, Value.string s, Value.slice a l.length cap] 26)).alloc (Obj.cells (cV u a2 cap2) 26)).alloc (Obj.cells zV 26) = W0
 have q1 : Is W0 w.heap.size 26 #[Value.int IntKind.i64 10, Value.int IntKind.i64 n, Value.int IntKind.i64 x, Value.string s, Value.slice a l.length cap] := by subst hW; exact ((Is.new _ _ _).alloc _).alloc _
 have q2 : Is W0 (w.heap.size + 1) 26 (cV u a2 cap2) := by subst hW; exact (Is.new2 _ _ _ _).alloc _
 have q3 : Is W0 (w.heap.size + 1 + 1) 26 zV := by subst hW; exact Is.new3 _ _ _ _ _
 have hs0 : W0.heap.size = w.heap.size + 3 := by subst hW; simp
 have H0 := Lib.hid (show Below w.heap.size w W0 from by subst hW; exact below3 _ _ _ _)
 clear hW
 have hpl : (l.length = 0) ∨ (∃ q, l.length = 2 * q + 2) := by
  by_cases h : l.length = 0
  ·exact Or.inl h
  ·exact Or.inr ⟨l.length / 2 - 1, by omega⟩
 go_loopw [6] (fun i wr => ∃ p : Nat, 2 * p ≤ l.length ∧ ((p = 0 ∧ i = .int .i64 (-2)) ∨ (∃ q j : Nat, p = q + 1 ∧ j = 2 * q ∧ i = .int .i64 (j : Int))) ∧ (∀ q, p ≤ q → (h : 2 * q < l.length) → sameT l[2 * q] u = false) ∧ Below W0.heap.size W0 wr) (fun i _ => ((intOf i) + 2).toNat)
 case atStart =>
  refine ⟨l.length / 2, by omega, ?_, fun q h1 h2 => by omega, Below.refl _ _⟩
  rcases hpl with h | ⟨q, h⟩
  ·exact Or.inl ⟨by omega, by rw [h]; rfl⟩
  ·exact Or.inr ⟨q, 2 * q, by omega, rfl, congrArg (Value.int .i64) (by omega)⟩
 case round =>
  obtain ⟨p, hp1, hpi, hno, hb⟩ := hrel
  have hbs := hb.size
  have HNO := Lib.hid hno; clear hno
  have p1 := q1.below hb (by omega)
  have p2 := q2.below hb (by omega)
  have p3 := q3.below hb (by omega)
  have hlb1 : w.heap.size < wr.heap.size := by omega
  have hlb2 : w.heap.size + 1 < wr.heap.size := by omega
  have hlb3 : w.heap.size + 1 + 1 < wr.heap.size := by omega
  obtain ⟨r0, r1, r2, r3, r4⟩ := p1.cells5
  obtain ⟨u0, u1, u2, u3, u4⟩ := p2.cells5
  have P3 := Lib.hid p3
  have HB := Lib.hid (show Below w.heap.size w wr from H0.out.trans (hb.mono (by omega)))
  have HBB := Lib.hid hb
  clear p3 hb
  rcases hpi with ⟨rfl, rfl⟩ | ⟨q, j, rfl, hj, rfl⟩
  ·have f3 := fun i => P3.out.frozen i
   obtain ⟨o0, o1, o2, o3, o4⟩ := P3.out.cells5
   go_wp2_with fail
   obtain ⟨e0, e1, e2, e3, e4, hbel, hold, hsz⟩ := out5 P3.out.blk (.int .i64 0) (.int .i64 0) (.int .i64 0) (.string ⟨#[]⟩) (.slice none 0 0) w.heap.size (by omega)
   refine bodyPost_ret (v := .tuple #[.agg zV, .bool false]) (by simp [results, Tryz.results112, go_sem, e0, e1, e2, e3, e4]) rfl ⟨.mk 0 0 0 ⟨#[]⟩ [], none, 0, by rw [HHF.out (fun q h => HNO.out q (Nat.zero_le _) h)]; rfl, HB.out.trans hbel⟩
  ·have hq1 : j + 1 < l.length := by omega
   have hq0 : j < l.length := by omega
   have HJ := Lib.hid hj
   have HRR := Lib.hid (HR.out.below HB.out hB)
   have HUU := Lib.hid (HU.out.below HB.out hB)
   obtain ⟨b, o, a3, cap3, hae, hbl, d0, d1, d2, d3, d4, hwf, hrq⟩ := HRR.out.get j hq0
   obtain ⟨b', o', a4, cap4, hae', hbl', g0, g1, g2, g3, g4, hwf', hrq'⟩ := HRR.out.get (j + 1) hq1
   subst hae
   cases hae'
   have hlb : b < wr.heap.size := by omega
   have HC1 := Lib.hid (T.count_get l (j + 1) hq1)
   have HTT := Lib.hid (fun h => HHT.out j hq0 (by omega) h)
   have HNX := Lib.hid (fun (h : sameT l[j] u = false) (q' : Nat) (h1 : q ≤ q') (h2 : 2 * q' < l.length) => (show sameT l[2 * q'] u = false from by
    by_cases e : q' = q
    ·subst e; simpa [hj] using h
    ·exact HNO.out q' (by omega) h2))
   have HW1 := Lib.hid hwf'; have HQ1 := Lib.hid hrq'; have HQ0 := Lib.hid hrq
   clear hwf hwf' hrq hrq'
   have hq3 : (j : Int) < (l.length : Int) := by omega
   have hq4 : (j : Int) + 1 < (l.length : Int) := by omega
   have HJ2 := Lib.hid (show j % 2 = 0 from by omega)
   clear hj hp1
   go_wp2_with (go_at_call 175; refine (spec_l7Map (.mk 10 n x s l) (some ⟨b, o, none⟩) cap _ (by simp only [T.l]; omega)).mono ?_; rintro e v1 ⟨rfl, hv1⟩; rw [HPD.out])
   have hv1s := hv1.size
   have HV1 := Lib.hid hv1; clear hv1
   have p11 := p1.below HV1.out (by omega); have p22 := p2.below HV1.out (by omega)
   obtain ⟨r0, r1, r2, r3, r4⟩ := p11.cells5
   obtain ⟨u0, u1, u2, u3, u4⟩ := p22.cells5
   have hlb1 : w.heap.size < v1.heap.size := by omega
   have hlb2 : w.heap.size + 1 < v1.heap.size := by omega
   have hlb : b < v1.heap.size := by omega
   have hcell : ∀ i, v1.cell? ⟨b, i, none⟩ = wr.cell? ⟨b, i, none⟩ := fun i => World.cell?_of_block (HV1.out.block b (by omega))
   rw [← hcell] at d0 d1 d2 d3 d4 g0 g1 g2 g3 g4
   have P11 := Lib.hid p11
   have HRV := Lib.hid (HRR.out.below HV1.out (by omega))
   clear hcell p1 p2 p11 p22
   have HQ0' := Lib.hid (HQ0.out.below HV1.out (by omega)); have HQ1' := Lib.hid (HQ1.out.below HV1.out (by omega)); have HU' := Lib.hid (HUU.out.below HV1.out (by omega))
   have P3' := Lib.hid (P3.out.below HV1.out (by omega))
   obtain ⟨sb, hsb⟩ : ∃ e, sameT l[j] u = e := ⟨_, rfl⟩
   have HSB := Lib.hid hsb; clear hsb
   go_upto_region 4 with (fail)
   refine tkW (v1.heap.size) v1 (fun hHeld => ?_)
   refine tkS 0 19 rfl ?_
   refine tkS 1 20 rfl ?_
   refine tkS 2 21 rfl ?_
   refine tkS 3 22 rfl ?_
   refine tkS 4 23 rfl ?_
   refine tkS 5 24 rfl ?_
   refine tkA 6 25 rfl (fun K hK => ?_)
   go_simp; (first | (go_at_call 176; refine (spec_SameVal l[j] u _ _ _ _ B _ (HQ0'.out.below (‹_ ∧ Below (v1.heap.size) v1 _›).2 (by omega)) (HU'.out.below (‹_ ∧ Below (v1.heap.size) v1 _›).2 (by omega)) (by have := (‹_ ∧ Below (v1.heap.size) v1 _›).2.size; omega)).mono ?_; rintro e v2 ⟨rfl, hv2⟩; rw [HSB.out])); go_wp2_with fail; refine tkK hK (fun hHeld => ?_); clear hK K
   refine tkE ?_
   have hv2s := (‹_ ∧ Below (v1.heap.size) v1 _›).2.size
   have HV2 := Lib.hid (‹_ ∧ Below (v1.heap.size) v1 _›).2
   clear hHeld hv2
   have P3'' := Lib.hid (P3'.out.below HV2.out (by omega))
   cases sb with
   | false =>
    have ff := fun i => P3''.out.frozen i
    go_wp2_with fail
    go_roundw
    case rel =>
     refine ⟨q, by have := HJ.out; omega, ?_, HNX.out HSB.out, ?_⟩
     ·by_cases h0 : q = 0
      ·exact Or.inl ⟨h0, by subst h0; have := HJ.out; subst this; rfl⟩
      ·exact Or.inr ⟨q - 1, 2 * (q - 1), by omega, rfl, by first | go_num | exact congrArg (Value.int .i64) (by have := HJ.out; omega)⟩
     ·exact HBB.out.trans ((HV1.out.mono (by omega)).trans (HV2.out.mono (by omega)))
    case measure => have := HJ.out; simp [intOf]; omega
   | true =>
    clear r0 r1 r2 r3 r4 u0 u1 u2 u3 u4 d0 d1 d2 d3 d4 g0 g1 g2 g3 g4 hlb1 hlb2 hlb3 hlb
    obtain ⟨r0, r1, r2, r3, r4⟩ := (P11.out.below HV2.out (by omega)).cells5
    obtain ⟨j1, hj1⟩ : ∃ j1, j + 1 = j1 := ⟨_, rfl⟩
    have hji : (j : Int) + 1 = (j1 : Int) := by omega
    have hq5 : j1 < l.length := by omega
    have HC1' := Lib.hid (show T.count l[j1] ≤ T.countL l from T.count_get l j1 hq5)
    obtain ⟨b2, o2, a5, cap5, hae, hbl2, g0, g1, g2, g3, g4, hwf, hrq⟩ := (HRV.out.below HV2.out (by omega)).get j1 hq5
    cases hae
    clear HW1 HQ1 HQ1' HC1 hj1 hq1
    have HW1 := Lib.hid hwf; have HQ1 := Lib.hid hrq; clear hwf hrq
    have hlb1 : w.heap.size < v2.heap.size := by omega
    have hlb : b < v2.heap.size := by omega
    rw [hji] at hq4
    go_wp2_with fail
    refine (spec_l6Copy l[j1] a5 cap5 B _ HQ1.out HW1.out (by omega) (by have := HC1'.out; have := HCT.out; omega)).mono ?_
    rintro e v3 ⟨a6, cap6, rfl, _, hv3⟩
    have p3 := P3''.out.below hv3 (by omega)
    have f3 := fun i => p3.frozen i
    have hv3s := hv3.size
    have hlb3 : w.heap.size + 1 + 1 < v3.heap.size := by omega
    obtain ⟨o0, o1, o2', o3, o4⟩ := p3.cells5
    go_wp2_with fail
    obtain ⟨e0, e1, e2, e3, e4, hbel, hold, hsz⟩ := out5 p3.blk (.int .i64 l[j1].k) (.int .i64 l[j1].n) (.int .i64 l[j1].x) (.string l[j1].s) (.slice a6 l[j1].l.length cap6) w.heap.size (by omega)
    refine bodyPost_ret (v := .tuple #[.agg (cV l[j1] a6 cap6), .bool true]) (by simp [results, Tryz.results112, go_sem, e0, e1, e2, e3, e4]) rfl ⟨l[j1], a6, cap6, by rw [HTT.out HSB.out], ((HB.out.trans (HV1.out.mono (by omega))).trans ((HV2.out.mono (by omega)).trans (hv3.mono (by omega)))).trans hbel⟩
theorem bytes_nil {s : ByteArray} (h : s.toList = []) : s = ⟨#[]⟩ := by
 have h2 : s.data.toList = [] := by rw [← Lib.toList_data]; exact h
 apply ByteArray.ext
 exact Array.toList_inj.1 (by simpa using h2)
def Asc (b : ByteArray) : Prop := ∀ x ∈ b.data.toList, x.toNat < 128
theorem Asc.app {a b : ByteArray} (ha : Asc a) (hb : Asc b) : Asc (a ++ b) := by
 intro x hx
 rw [ByteArray.data_append, Array.toList_append] at hx
 rcases List.mem_append.1 hx with h | h
 ·exact ha x h
 ·exact hb x h
theorem Asc.ext {a : ByteArray} (ha : Asc a) (i j : Nat) : Asc (a.extract i j) := by
 intro x hx
 rw [ByteArray.data_extract, Array.toList_extract, List.extract_eq_take_drop] at hx
 exact ha x (List.mem_of_mem_drop (List.mem_of_mem_take hx))
theorem Asc.valid {a : ByteArray} (ha : Asc a) : Lib.validD a.data.toList = true := by
 have : ∀ l : List UInt8, (∀ b ∈ l, b.toNat < 128) → Lib.validD l = true := by
  intro l
  induction l with
  | nil => intro _; exact Lib.validD_nil
  | cons b r ih => intro h; rw [Lib.validD_cons b r (h b (by simp))]; exact ih (fun x hx => h x (by simp [hx]))
 exact this _ ha
theorem dec_asc : ∀ u : Nat, ∀ x ∈ Lib.decDigits u, x.toNat < 128 := by
 intro u
 induction u using Nat.strongRecOn with
 | ind u ih =>
  intro x hx
  rw [Lib.decDigits] at hx
  by_cases h : u < 10
  ·rw [dif_pos h, List.mem_singleton] at hx
   rw [hx, u8_toNat _ (by omega)]; omega
  ·rw [dif_neg h] at hx
   rcases List.mem_append.1 hx with h1 | h1
   ·exact ih (u / 10) (by omega) x h1
   ·rw [List.mem_singleton] at h1
    rw [h1, u8_toNat _ (by omega)]; omega
theorem digT_asc (n : Int) : Asc (digT n) := by intro x hx; exact dec_asc _ x (by simpa [digT] using hx)
theorem one_asc (b : UInt8) (h : b.toNat < 128) : Asc ⟨#[b]⟩ := by
 intro x hx
 rw [show (⟨#[b]⟩ : ByteArray).data.toList = [b] from rfl, List.mem_singleton] at hx
 rw [hx]; exact h
theorem nil_asc : Asc ⟨#[]⟩ := by intro x hx; simp at hx
theorem padZ_asc (f m : Nat) : ∀ s : ByteArray, Asc s → Asc (padZ f m s) := by
 induction f with
 | zero => intro s h; exact h
 | succ f ih =>
  intro s h
  rw [padZ]
  split
  ·exact ih _ ((one_asc 48 (by decide)).app h)
  ·exact h
theorem decBody_asc (n : Int) (m : Nat) : Asc (decBody n m) := by
 unfold decBody
 have h := padZ_asc 60 m _ (digT_asc n)
 exact ((h.ext _ _).app (one_asc 46 (by decide))).app (h.ext _ _)
theorem numT_asc (n : Int) : Asc (numT n) := by
 by_cases h : n < 0
 ·rw [numT_neg h]; exact (one_asc 45 (by decide)).app (digT_asc n)
 ·rw [numT_pos h]; exact digT_asc n
theorem decTx_asc (n : Int) (m : Nat) : Asc (decTx n m) := by
 unfold decTx
 split
 ·exact nil_asc
 split
 ·exact numT_asc n
 split
 ·exact (one_asc 45 (by decide)).app (decBody_asc n m)
 ·exact decBody_asc n m
def kName (i : Nat) : T := .mk 7 0 0 (⟨#[107]⟩ ++ numT i) []
def hasN (out : List T) (x : T) : Bool := hasP out x
def fixN : List T → List T → List T
 | out, [] => out
 | out, x :: r => fixN (out ++ [if out.length % 2 = 0 ∧ hasN out x = true then kName out.length else x]) r
theorem fixN_app (l m : List T) : ∀ out : List T, fixN out (l ++ m) = fixN (fixN out l) m := by
 induction l with
 | nil => intro out; rfl
 | cons x r ih => intro out; rw [List.cons_append, fixN, fixN, ih]
theorem fixN_len : ∀ (l out : List T), (fixN out l).length = out.length + l.length := by
 intro l
 induction l with
 | nil => intro out; rfl
 | cons x r ih => intro out; rw [fixN, ih]; simp; omega
theorem fixN_take (l : List T) (j : Nat) (h : j < l.length) : fixN [] (l.take (j + 1)) = fixN [] (l.take j) ++ [if j % 2 = 0 ∧ hasN (fixN [] (l.take j)) l[j] = true then kName j else l[j]] := by
 rw [take_snoc l j h, fixN_app]
 have e : (fixN [] (l.take j)).length = j := by rw [fixN_len]; simp; omega
 simp only [fixN, e]
theorem kName_own (i : Nat) : ownQ 7 0 0 (⟨#[107]⟩ ++ numT i) 0 := (own7 _ _ _ _).2 ⟨rfl, rfl, rfl, ((one_asc 107 (by decide)).app (numT_asc i)).valid⟩
theorem kName_list (i : Nat) (h : i < 10) : (kName i).s.data.toList = [107, UInt8.ofNat (48 + i)] := by
 show ((⟨#[107]⟩ : ByteArray) ++ numT (i : Int)).data.toList = _
 rw [numT_pos (by omega), ByteArray.data_append, Array.toList_append]
 simp [digT, Lib.decDigits_one h]
theorem kName_inj {i j : Nat} (hi : i < 10) (hj : j < 10) (h : kName i = kName j) : i = j := by
 have h2 : (kName i).s.data.toList = (kName j).s.data.toList := by rw [h]
 rw [kName_list i hi, kName_list j hj] at h2
 simp only [List.cons.injEq, and_true, true_and] at h2
 have h3 := congrArg UInt8.toNat h2
 rw [u8_toNat _ (by omega), u8_toNat _ (by omega)] at h3
 omega
theorem kName_nam {i : Nat} (hi : i < 10) {t : T} (h : namQ t) : t ≠ kName i := by
 rintro rfl
 obtain ⟨_, _, ⟨hk, _⟩ | ⟨_, _, hs⟩⟩ := h
 ·exact absurd (show (7 : Int) = 3 from hk) (by decide)
 ·have hl := kName_list i hi
  have h3 : (UInt8.ofNat (48 + i)).toNat = 48 + i := u8_toNat _ (by omega)
  simp only [List.mem_cons, List.not_mem_nil, or_false] at hs
  rcases hs with h | h | h | h | h | h <;> rw [h] at hl <;> simp at hl
theorem kName_size (i : Nat) (h : i < 10) : (kName i).s.size ≤ 200 := by
 rw [Lib.size_eq, kName_list i h]; simp
theorem once_snoc (ns : List T) (x : T) (h : onceN ns ns.length = true) (hx : ∀ o ∈ ns, o ≠ x) : onceN (ns ++ [x]) (ns ++ [x]).length = true := by
 have pre : ∀ j, j ≤ ns.length → onceN (ns ++ [x]) j = onceN ns j := by
  intro j
  induction j with
  | zero => intro _; rfl
  | succ j ih =>
   intro hj
   rw [onceN_succ _ j (by simp; omega), onceN_succ _ j (by omega), ih (by omega), List.getElem_append_left (by omega), List.take_append_of_le_length (by omega)]
 rw [List.length_append, List.length_singleton, onceN_succ _ ns.length (by simp), pre _ (Nat.le_refl _), h, List.getElem_concat_length rfl, List.take_append_of_le_length (Nat.le_refl _), List.take_length]
 rw [Bool.true_and, Bool.not_eq_true', List.any_eq_false]
 intro o ho
 rw [sameT_iff]; exact hx o ho
theorem evN_pre (l m : List T) (p : Nat) (h : 2 * p ≤ l.length + 1) : evN (l ++ m) p = evN l p := by
 induction p with
 | zero => rfl
 | succ p ih =>
  rw [evN_succ (l ++ m) p (2 * p) rfl (by simp; omega), evN_succ l p (2 * p) rfl (by omega), ih (by omega), List.getElem_append_left (by omega)]
theorem evN_at (l : List T) : ∀ p, 2 * p ≤ l.length + 1 → ∀ o ∈ evN l p, ∃ i, ∃ h : i < l.length, i % 2 = 0 ∧ i < 2 * p ∧ o = l[i] := by
 intro p
 induction p with
 | zero => intro _ o ho; simp [evN] at ho
 | succ p ih =>
  intro hp o ho
  rw [evN_succ l p (2 * p) rfl (by omega)] at ho
  rcases List.mem_append.1 ho with h | h
  ·obtain ⟨i, h1, h2, h3, h4⟩ := ih (by omega) o h
   exact ⟨i, h1, h2, by omega, h4⟩
  ·rw [List.mem_singleton] at h
   exact ⟨2 * p, by omega, by omega, by omega, h⟩
def NmOk (out : List T) : Prop := onceN (evN out ((out.length + 1) / 2)) (evN out ((out.length + 1) / 2)).length = true ∧ ∀ i (h : i < out.length), i % 2 = 0 → (namQ out[i] ∨ out[i] = kName i)
theorem NmOk.odd {out : List T} (h : NmOk out) (ho : out.length % 2 = 1) (x : T) : NmOk (out ++ [x]) := by
 obtain ⟨h1, h2⟩ := h
 refine ⟨?_, fun i hi hp => ?_⟩
 ·have e : ((out ++ [x]).length + 1) / 2 = (out.length + 1) / 2 := by simp; omega
  rw [e, evN_pre out [x] _ (by omega)]; exact h1
 ·have hl : i < out.length := by simp at hi; omega
  rw [List.getElem_append_left hl]; exact h2 i hl hp
theorem NmOk.even {out : List T} (h : NmOk out) (ho : out.length % 2 = 0) (hs : out.length < 10) {x : T} (hx : namQ x) : NmOk (out ++ [if out.length % 2 = 0 ∧ hasN out x = true then kName out.length else x]) := by
 obtain ⟨h1, h2⟩ := h
 have hev : (out.length + 1) / 2 = out.length / 2 := by omega
 rw [hev] at h1
 have hget := evN_at out (out.length / 2) (by omega)
 obtain ⟨y, hy⟩ : ∃ y, (if out.length % 2 = 0 ∧ hasN out x = true then kName out.length else x) = y := ⟨_, rfl⟩
 rw [hy]
 have hyn : namQ y ∨ y = kName out.length := by
  subst hy; split
  ·exact Or.inr rfl
  ·exact Or.inl hx
 have hne : ∀ o ∈ evN out (out.length / 2), o ≠ y := by
  intro o hoe
  obtain ⟨i, hi, hi2, _, rfl⟩ := hget o hoe
  subst hy
  split
  ·rcases h2 i hi hi2 with h | h
   ·exact kName_nam (by omega) h
   ·rw [h]; intro e; have := kName_inj (by omega) (by omega) e; omega
  ·rename_i hc
   have hn : hasN out x = false := by
    cases hb : hasN out x with
    | false => rfl
    | true => exact absurd ⟨ho, hb⟩ hc
   unfold hasN hasP at hn
   rw [List.any_eq_false] at hn
   have := hn _ hoe
   rwa [sameT_iff] at this
 refine ⟨?_, fun i hi hp => ?_⟩
 ·have e : ((out ++ [y]).length + 1) / 2 = out.length / 2 + 1 := by simp; omega
  rw [e, evN_succ _ _ out.length (by omega) (by simp), evN_pre out [y] _ (by omega), List.getElem_concat_length rfl]
  exact once_snoc _ _ h1 hne
 ·rcases Nat.lt_or_ge i out.length with hl | hl
  ·rw [List.getElem_append_left hl]; exact h2 i hl hp
  ·obtain rfl : i = out.length := by simp at hi; omega
   rw [List.getElem_concat_length rfl]; exact hyn
theorem fixN_ok (l : List T) (hl : l.length ≤ 6) (hn : ∀ i (h : i < l.length), i % 2 = 0 → namQ l[i]) : ∀ j, j ≤ l.length → NmOk (fixN [] (l.take j)) := by
 intro j
 induction j with
 | zero => intro _; rw [List.take_zero]; exact ⟨rfl, fun i h => by simp [fixN] at h⟩
 | succ j ih =>
  intro hj
  have h := ih (by omega)
  have e : (fixN [] (l.take j)).length = j := by rw [fixN_len]; simp; omega
  rw [fixN_take l j (by omega)]
  by_cases hp : j % 2 = 0
  ·have := h.even (by rw [e]; exact hp) (by rw [e]; omega) (hn j (by omega) hp)
   rwa [e] at this
  ·rw [if_neg (fun hh => hp hh.1)]
   exact h.odd (by rw [e]; omega) _
theorem fixN_mem (l : List T) : ∀ j, j ≤ l.length → ∀ x ∈ fixN [] (l.take j), x ∈ l ∨ ∃ i, i < j ∧ x = kName i := by
 intro j
 induction j with
 | zero => intro _ x hx; simp [fixN] at hx
 | succ j ih =>
  intro hj x hx
  rw [fixN_take l j (by omega)] at hx
  rcases List.mem_append.1 hx with h | h
  ·rcases ih (by omega) x h with h | ⟨i, hi, h⟩
   ·exact Or.inl h
   ·exact Or.inr ⟨i, by omega, h⟩
  ·rw [List.mem_singleton] at h
   split at h
   ·exact Or.inr ⟨j, by omega, h⟩
   ·exact Or.inl (h ▸ List.getElem_mem _)
theorem mem_get {α : Type} {x : α} {l : List α} (h : x ∈ l) : ∃ i, ∃ hi : i < l.length, l[i] = x := List.getElem_of_mem h
theorem T.depth_eta0 (t : T) : T.depth t = T.depthL t.l + 1 := by cases t; simp [T.depth, T.l]
theorem depth_one (k n x : Int) (s : ByteArray) : T.depth (.mk k n x s []) = 1 := by simp [T.depth, T.depthL]
theorem wfK {k n x : Int} {s : ByteArray} {l : List T} (h1 : I64 k) (h2 : I64 n) (h3 : I64 x) (h4 : s.size ≤ 1000000) : Wf (.mk k n x s l) := ⟨h1, h2, h3, by show s.size ≤ maxLen; unfold maxLen; omega⟩
theorem count_pos (t : T) : 1 ≤ T.count t := by cases t; simp [T.count]
theorem fixN_count (l : List T) : ∀ j, j ≤ l.length → T.countL (fixN [] (l.take j)) ≤ T.countL (l.take j) := by
 intro j
 induction j with
 | zero => intro _; simp [fixN]
 | succ j ih =>
  intro hj
  rw [fixN_take l j (by omega), T.countL_take_succ l j (by omega), T.countL_append]
  have := ih (by omega)
  have h1 : T.countL [if j % 2 = 0 ∧ hasN (fixN [] (l.take j)) l[j] = true then kName j else l[j]] ≤ T.count l[j] := by
   split
   ·have e : T.countL [kName j] = 1 := by simp [kName, T.countL, T.count]
    rw [e]; exact count_pos _
   ·simp [T.countL]
  omega
theorem countL_map {f : T → T} : ∀ (l : List T), (∀ t ∈ l, T.count (f t) ≤ T.count t) → ∀ j, T.countL ((l.map f).take j) ≤ T.countL (l.take j) := by
 intro l
 induction l with
 | nil => intro _ j; simp
 | cons t r ih =>
  intro h j
  cases j with
  | zero => simp [T.countL]
  | succ j =>
   simp only [List.map_cons, List.take_succ_cons, T.countL]
   have := ih (fun u hu => h u (by simp [hu])) j
   have := h t (by simp)
   omega
def szB : Nat → Nat
 | 0 => 0
 | D + 1 => 200 + 6 * (1 + szB D)
theorem Rn.r {w : World} {lo cap : Nat} {a : Option Addr} {l : List T} (h : Rn TV 5 w lo a cap l) : R w w.heap.size a cap l := R.rd.2 h.rd
def DrawnT (Q : T → Prop) (w : World) (e : Ending) (w' : World) : Prop := ∃ (t : T) (a' : Option Addr) (cap' : Nat), e = .returned (.agg (cV t a' cap')) ∧ Wf t ∧ T.sz t ≤ 60000 ∧ Q t ∧ R w' w'.heap.size a' cap' t.l ∧ Below w.heap.size w w'
theorem flt_bits {m e : Int} (h : fltOk m e) : bitsFltD (fltBitsD m e) = ((m, e), true) := by
 have hb := fltBitsD_in m e
 have hf : fltBitsD m e = 65536 * (e + 16) + m.natAbs + (if m < 0 then 16777216 else 0) := by unfold fltBitsD; rw [if_pos h]
 rcases h with ⟨rfl, rfl⟩ | ⟨h0, h1, h2, h3, h4⟩
 ·rw [hf]; rfl
 have he : e ≤ 46 := by rcases h4 with h | h <;> omega
 have hr : 0 ≤ fltBitsD m e ∧ fltBitsD m e ≤ 33554431 := by
  rcases hb with h | h
  ·rw [hf] at h; split at h <;> omega
  ·exact h
 have ha : fltBitsD m e % 65536 = m.natAbs := by rw [hf]; split <;> omega
 have hx : fltBitsD m e / 65536 % 256 - 16 = e := by rw [hf]; split <;> omega
 have hs : 16777216 ≤ fltBitsD m e ↔ m < 0 := by rw [hf]; split <;> omega
 have hm : (if 16777216 ≤ fltBitsD m e then -(fltBitsD m e % 65536) else fltBitsD m e % 65536) = m := by
  rw [ha]; split
  ·have := hs.1 ‹_›; omega
  ·have : ¬ m < 0 := fun h => ‹¬ _› (hs.2 h); omega
 unfold bitsFltD
 rw [if_pos hr, hm, hx]
 unfold fltNewD
 rw [if_neg (fun hh => hh ⟨⟨by omega, by omega⟩, by omega, by omega⟩), if_neg h0, stripE_no _ _ _ h2]
 exact if_pos (Or.inr ⟨h0, h1, h2, h3, h4⟩)
theorem AllT.allB {P : T → Prop} {p : T → Bool} (hp : ∀ t, P t → p t = true) : ∀ t, AllT P t → allB p t = true := by
 apply T.ind
 intro k n x s l ih h
 rw [AllT_iff] at h
 rw [allB_eq, Bool.and_eq_true, List.all_eq_true]
 exact ⟨hp _ h.1, fun u hu => ih u hu (h.2 u hu)⟩
theorem own_kinds {k n x : Int} {s : ByteArray} {m : Nat} (h : ownQ k n x s m) : k = 1 ∨ k = 2 ∨ k = 3 ∨ k = 4 ∨ k = 5 ∨ k = 6 ∨ k = 7 ∨ k = 8 ∨ k = 9 ∨ k = 10 ∨ k = 11 := by
 by_cases hr : k < 1 ∨ 11 < k
 ·exact absurd h (ownQ_out _ _ _ _ _ hr)
 ·omega
end Go.Proofs.YtggdenkmohnijaaGreatDoor
