/- Texts of this proof, merged: Tig8, PText, PutR, Esc, Quo, DecT, WriA, Quo2, WriL, WriS, WriT, WriP, WriX, FitsW, WriW. No condition beyond what each theorem states. -/
import Derived.Test.YtggdenkmohnijaaGreatDoorZO14
import Derived.Lib.OthersKept
import Derived.Laws.RangeString
import Derived.Laws.RangeAny
set_option linter.unusedSimpArgs false
set_option linter.unnecessarySimpa false
namespace Go.Proofs.YtggdenkmohnijaaGreatDoor
open Go.ChangeShapes Go.WideShapes Go.ChangeAt Go.RowKit Go.Joins
set_option linter.unusedVariables false
set_option maxRecDepth 100000
set_option maxHeartbeats 4000000 in
theorem impl_LessTight (t u : T) (a a' : Option Addr) (cap cap' B : Nat) (w : World) (hr : R w B a cap t.l) (hr' : R w B a' cap' u.l) (hwf : Wf t) (hwf' : Wf u) (hsz : T.sz t ≤ 1048576) (hsz' : T.sz u ≤ 1048576) (hB : B ≤ w.heap.size) :
  Calls Tryz.prog 69 #[.agg (cV t a cap), .agg (cV u a' cap')] w fun e w' => e = .returned (.bool (lexB (packT t) (packT u))) ∧ Below w.heap.size w w' := by
 have CT := Lib.hid (fun W h1 h2 => impl_PackTight t a cap B W h1 hwf hsz h2)
 have CU := Lib.hid (fun W h1 h2 => impl_PackTight u a' cap' B W h1 hwf' hsz' h2)
 have HR := Lib.hid hr
 have HR' := Lib.hid hr'
 clear hwf hwf' hsz hsz' hr hr'
 go_enter Tryz.func69, Tryz.ntmps69
 go_wp2_with fail
 generalize hW : (w.alloc (Obj.cells _ 26)).alloc (Obj.cells _ 26) = W0
 have q1 : Is W0 w.heap.size 26 (cV t a cap) := by subst hW; exact (Is.new _ _ _).alloc _
 have q2 : Is W0 (w.heap.size + 1) 26 (cV u a' cap') := by subst hW; exact Is.new2 _ _ _ _
 have H0 := Lib.hid (show Below w.heap.size w W0 from by subst hW; exact below2 _ _ _)
 have hs0 : W0.heap.size = w.heap.size + 2 := by subst hW; simp
 clear hW
 obtain ⟨r0, r1, r2, r3, r4⟩ := q1.cells5
 obtain ⟨s0, s1, s2, s3, s4⟩ := q2.cells5
 have hl3 : w.heap.size + 1 < W0.heap.size := by omega
 have hl4 : w.heap.size < W0.heap.size := by omega
 refine tkW (W0.heap.size) W0 (fun hHeld => ?_)
 refine tkS 0 5 rfl ?_
 refine tkS 2 7 rfl ?_
 refine tkA 1 6 rfl (fun K hK => ?_)
 go_simp; (first | (go_at_call 120; refine (impl_LessBytes (packT t) (packT u) _ _ _ _ w4.heap.size _ (HA3.out.rd (by omega)) (HA4.out.rd (by omega)) (packT_u8 t) (packT_u8 u)).mono ?_; rintro e w5 ⟨rfl, hb5⟩) | (go_at_call 21; refine (CT.out _ (HR.out.below (H0.out.trans ((‹_ ∧ Below (W0.heap.size) W0 _›).2.mono (by omega))) hB) (by have := (‹_ ∧ Below (W0.heap.size) W0 _›).2.size; omega)).mono ?_; rintro e w3 ⟨a3, c3, rfl, happ3, hb3⟩; have hsz3 := hb3.size; (try simp only [World.size_drew] at hsz3)) | (go_at_call 21; refine (CU.out _ (HR'.out.below (H0.out.trans ((‹_ ∧ Below (W0.heap.size) W0 _›).2.mono (by omega))) hB) (by have := (‹_ ∧ Below (W0.heap.size) W0 _›).2.size; omega)).mono ?_; rintro e w4 ⟨a4, c4, rfl, happ4, hb4⟩; have hsz4 := hb4.size; (try simp only [World.size_drew] at hsz4); have HA3 := Lib.hid ((happ3.less (show W0.heap.size ≤ _ by first | omega | (simp only [World.size_drew]; omega))).agree EByte.elem (fun f hf => hb4.block f hf) (by omega)); have HA4 := Lib.hid (happ4.less (show W0.heap.size ≤ _ by first | omega | (simp only [World.size_drew]; omega))))); go_wp2_with fail; refine tkK hK (fun hHeld => ?_); clear hK K
 refine tkA 3 8 rfl (fun K hK => ?_)
 focus (go_simp; (first | (go_at_call 120; refine (impl_LessBytes (packT t) (packT u) _ _ _ _ w4.heap.size _ (HA3.out.rd (by omega)) (HA4.out.rd (by omega)) (packT_u8 t) (packT_u8 u)).mono ?_; rintro e w5 ⟨rfl, hb5⟩) | (go_at_call 21; refine (CT.out _ (HR.out.below (H0.out.trans ((‹_ ∧ Below (W0.heap.size) W0 _›).2.mono (by omega))) hB) (by have := (‹_ ∧ Below (W0.heap.size) W0 _›).2.size; omega)).mono ?_; rintro e w3 ⟨a3, c3, rfl, happ3, hb3⟩; have hsz3 := hb3.size; (try simp only [World.size_drew] at hsz3)) | (go_at_call 21; refine (CU.out _ (HR'.out.below (H0.out.trans ((‹_ ∧ Below (W0.heap.size) W0 _›).2.mono (by omega))) hB) (by have := (‹_ ∧ Below (W0.heap.size) W0 _›).2.size; omega)).mono ?_; rintro e w4 ⟨a4, c4, rfl, happ4, hb4⟩; have hsz4 := hb4.size; (try simp only [World.size_drew] at hsz4); have HA3 := Lib.hid ((happ3.less (show W0.heap.size ≤ _ by first | omega | (simp only [World.size_drew]; omega))).agree EByte.elem (fun f hf => hb4.block f hf) (by omega)); have HA4 := Lib.hid (happ4.less (show W0.heap.size ≤ _ by first | omega | (simp only [World.size_drew]; omega))))); go_wp2_with fail; refine tkK hK (fun hHeld => ?_); clear hK K)
 refine tkA 4 9 rfl (fun K hK => ?_)
 focus (go_simp; (first | (go_at_call 120; refine (impl_LessBytes (packT t) (packT u) _ _ _ _ w4.heap.size _ (HA3.out.rd (by omega)) (HA4.out.rd (by omega)) (packT_u8 t) (packT_u8 u)).mono ?_; rintro e w5 ⟨rfl, hb5⟩) | (go_at_call 21; refine (CT.out _ (HR.out.below (H0.out.trans ((‹_ ∧ Below (W0.heap.size) W0 _›).2.mono (by omega))) hB) (by have := (‹_ ∧ Below (W0.heap.size) W0 _›).2.size; omega)).mono ?_; rintro e w3 ⟨a3, c3, rfl, happ3, hb3⟩; have hsz3 := hb3.size; (try simp only [World.size_drew] at hsz3)) | (go_at_call 21; refine (CU.out _ (HR'.out.below (H0.out.trans ((‹_ ∧ Below (W0.heap.size) W0 _›).2.mono (by omega))) hB) (by have := (‹_ ∧ Below (W0.heap.size) W0 _›).2.size; omega)).mono ?_; rintro e w4 ⟨a4, c4, rfl, happ4, hb4⟩; have hsz4 := hb4.size; (try simp only [World.size_drew] at hsz4); have HA3 := Lib.hid ((happ3.less (show W0.heap.size ≤ _ by first | omega | (simp only [World.size_drew]; omega))).agree EByte.elem (fun f hf => hb4.block f hf) (by omega)); have HA4 := Lib.hid (happ4.less (show W0.heap.size ≤ _ by first | omega | (simp only [World.size_drew]; omega))))); go_wp2_with fail; refine tkK hK (fun hHeld => ?_); clear hK K)
 refine tkS 5 4 rfl ?_
 refine tkE ?_
 all_goals
  have hBB := (‹_ ∧ Below (W0.heap.size) W0 _›).2
  go_wp2_with fail
  go_ret
  exact ⟨rfl, H0.out.trans (hBB.mono (by omega))⟩
theorem namesT_sz (t : T) (C : Nat) (hsz : T.sz t ≤ C) : ∀ u ∈ namesT t, T.sz u ≤ C := by
 intro u hu
 unfold namesT at hu
 split at hu
 ·have hm : ∀ x ∈ t.l, T.sz x ≤ C := by
   intro x hx
   obtain ⟨i, hi, rfl⟩ := List.mem_iff_getElem.1 hx
   have := T.sz_get t.l i hi
   have := sz_list t
   omega
  have hx := evN_mem t.l _ (by omega) u hu
  exact hm u hx
 ·cases hu
set_option maxHeartbeats 4000000 in
theorem impl_tight (t : T) (a : Option Addr) (cap B : Nat) (w : World) (hr : R w B a cap t.l) (hwf : Wf t) (hsz : T.sz t ≤ 1048576) (he : Env B w) (hB : B ≤ w.heap.size) :
  Calls Tryz.prog 67 #[.agg (cV t a cap)] w fun e w' => e = .returned (.bool (tightU t)) ∧ Below w.heap.size w w' := by
 have hlc : t.l.length ≤ 1073741824 := by have := T.length_le_szL t.l; have := sz_list t; omega
 have HR := Lib.hid hr; clear hr
 have HTN := Lib.hid (fun W (h : R W B a cap t.l) (hb : B ≤ W.heap.size) => impl_names t a cap B W h hb hlc)
 have HZ := Lib.hid (namesT_sz t 1048576 hsz)
 have HD0 := Lib.hid (show tightU t = (ascU (namesT t) (namesT t).length && decide (t.k ≠ 6)) from rfl)
 obtain ⟨ns, hns⟩ : ∃ r, namesT t = r := ⟨_, rfl⟩
 rw [hns] at HTN HD0 HZ
 have q0 := Is.new w (cV t a cap) 26
 have H0 := Lib.hid (below1 w (.cells (cV t a cap) 26))
 have lg : w.heap.size < (w.alloc (.cells (cV t a cap) 26)).heap.size := by simp
 clear hwf he hns
 go_enter Tryz.func67, Tryz.ntmps67
 go_wp2_with fail
 refine (HTN.out _ (HR.out.below H0.out hB) (by simp; omega)).mono ?_
 rintro e w2 ⟨a2, c2, rfl, hr2, hb2⟩
 have HB2 := Lib.hid (below_step H0.out hb2 (by simp))
 have p2 := q0.below hb2 lg
 have hlt2 : w.heap.size < w2.heap.size := p2.lt
 have HR2 := Lib.hid hr2
 obtain ⟨hn1, hn2⟩ := hr2.len
 clear hb2 hr2 lg q0
 go_wp2_with fail
 go_loopw [4] (fun iv w5 => ∃ (q p : Nat), p = q + 1 ∧ (q < ns.length ∨ q = 0) ∧ iv = .int .i64 p ∧ Hid (ascU ns p = true) ∧ Below w2.heap.size w2 w5) (fun iv _ => ns.length + 1 - (intOf iv).toNat)
 case atStart => exact ⟨0, 1, rfl, Or.inr rfl, rfl, Lib.hid rfl, Below.refl _ _⟩
 case round =>
  obtain ⟨q, p, hpq, hpl, rfl, HP, hb5⟩ := hrel
  rename World => w5
  have hs5 := hb5.size
  have hbox5 := p2.below hb5 hlt2
  obtain ⟨y0, y1, y2, y3, y4⟩ := hbox5.cells5
  have hlt5 : w.heap.size < w5.heap.size := by omega
  have HB5 := Lib.hid (HB2.out.trans (hb5.mono (by omega)))
  by_cases hil : p < ns.length
  ·obtain ⟨b, o, a3, cap3, hba, hbl, d0, d1, d2, d3, d4, hwf1, hq1⟩ := (HR2.out.below hb5 (Nat.le_refl _)).get p hil
   obtain ⟨b', o', a4, cap4, ha, hbl', d0', d1', d2', d3', d4', hwf2, hq2⟩ := (HR2.out.below hb5 (Nat.le_refl _)).get q (by omega)
   subst hba
   injection ha with ha; injection ha with ha ha2; subst ha ha2
   have hlb : b < w5.heap.size := by omega
   have hi1 : (0 : Int) ≤ (p : Int) := by omega
   have hi2 : (p : Int) < (ns.length : Int) := by omega
   have hi3 : (0 : Int) ≤ (q : Int) := by omega
   have hi4 : (q : Int) < (ns.length : Int) := by omega
   have hwr : IntKind.i64.wrap ((p : Int) - 1) = (q : Int) := by rw [show (p : Int) - 1 = (q : Int) from by omega]; rw [Go.IntWalk.i64_left]; exact Go.IntWalk.wrap64_in _ ⟨by omega, by omega⟩
   have HQ1 := Lib.hid hq1; have HQ2 := Lib.hid hq2; have HW1 := Lib.hid hwf1; have HW2 := Lib.hid hwf2
   have HZ1 := Lib.hid (HZ.out _ (List.getElem_mem hil))
   have HZ2 := Lib.hid (HZ.out _ (List.getElem_mem (show q < ns.length by omega)))
   have HS := Lib.hid (show ascU ns (p + 1) = (ascU ns p && lexB (packT (ns[q]'(by omega))) (packT ns[p])) from by subst hpq; exact ascU_succ ns q hil)
   have HPQ := Lib.hid hpq
   clear hq1 hq2 hwf1 hwf2 hbl hbl'
   obtain ⟨u, hu⟩ : ∃ u, ns[p] = u := ⟨_, rfl⟩
   obtain ⟨v, hv⟩ : ∃ v, ns[q]'(by omega) = v := ⟨_, rfl⟩
   rw [hu] at d0 d1 d2 d3 d4 HQ1 HW1 HS HZ1
   rw [hv] at d0' d1' d2' d3' d4' HQ2 HW2 HS HZ2
   clear hpq hu hv
   go_wp2_with fail
   go_region_held3 (fun w' => (∀ b o, b < w5.heap.size → w'.cell? ⟨b, o, none⟩ = w5.cell? ⟨b, o, none⟩) ∧ Below (w5.heap.size) w5 w') (first | exact kpZ | assumption | exact kpD (by assumption) | exact kpB (by assumption) (by assumption) | exact kpC (by assumption) (by assumption) | exact kpA (by assumption)) (first | (go_at_call 69; refine (impl_LessTight v u a4 a3 cap4 cap3 w2.heap.size _ (HQ2.out.below (‹_ ∧ Below (w5.heap.size) w5 _›).2 (by omega)) (HQ1.out.below (‹_ ∧ Below (w5.heap.size) w5 _›).2 (by omega)) HW2.out HW1.out HZ2.out HZ1.out (by have := (‹_ ∧ Below (w5.heap.size) w5 _›).2.size; omega)).mono ?_; rintro e w6 ⟨rfl, hb6⟩))
   have hb6 := (‹_ ∧ Below (w5.heap.size) w5 _›).2
   cases hx : lexB (packT v) (packT u) with
   | false =>
    have HF := Lib.hid (show tightU t = false from by rw [HD0.out, ascU_false ns (p + 1) _ (by omega) (by rw [HS.out, HP.out, hx]; rfl)]; rfl)
    go_wp2_with fail
    go_ret
    exact ⟨ret_b (by rw [HF.out]), HB5.out.trans (hb6.mono (by omega))⟩
   | true =>
    have HP2 := Lib.hid (show ascU ns (p + 1) = true from by rw [HS.out, HP.out, hx]; rfl)
    go_wp2_with fail
    go_roundw
    case rel => exact ⟨p, p + 1, rfl, Or.inl hil, by go_num, HP2, hb5.trans (hb6.mono (by omega))⟩
    case measure => simp [intOf]; omega
  ·have HT := Lib.hid (show tightU t = decide (t.k ≠ 6) from by
    rw [HD0.out]
    by_cases h : ascU ns ns.length = true
    ·rw [h]; rfl
    ·have h' := ascU_false ns ns.length p (by omega) (Bool.not_eq_true _ ▸ h)
     rw [HP.out] at h'; cases h')
   go_wp2_with fail
   go_ret
   exact ⟨ret_b (by rw [HT.out]; first | rfl | (by_cases h6 : t.k = 6 <;> simp [h6])), HB5.out⟩
set_option maxHeartbeats 2000000 in
theorem every_tight (hp : ∀ t : T, ∀ (a : Option Addr) (cap B : Nat) (w : World), R w B a cap t.l → Wf t → T.sz t ≤ 1048576 → Env B w → B ≤ w.heap.size → Calls Tryz.prog 67 #[.agg (cV t a cap)] w fun e v => e = .returned (.bool (tightU t)) ∧ Below w.heap.size w v) :
  ∀ t : T, ∀ (a : Option Addr) (cap B : Nat) (w : World), R w B a cap t.l → Wf t → T.sz t ≤ 1048576 → Env B w → B ≤ w.heap.size →
  Calls Tryz.prog 66 #[.agg (cV t a cap), .func (.func 67) #[] #[]] w fun e w' => e = .returned (.bool (allB tightU t)) ∧ Below w.heap.size w w' := by
 have HP := Lib.hid hp; clear hp
 intro t
 induction t using T.ind with
 | h k n x s l ih =>
  intro a cap B w hr hwf hsz henv hB
  have IH := Lib.hid ih; clear ih
  have HPT := Lib.hid (fun W h1 h2 h3 h4 => HP.out (.mk k n x s l) a cap B W h1 hwf hsz h3 h4 : ∀ W, R W B a cap l → True → Env B W → B ≤ W.heap.size → _)
  have HALL := Lib.hid (allB_eq tightU (.mk k n x s l))
  simp only [cV, T.k, T.n, T.x, T.s, T.l] at hr HPT ⊢
  rw [sz_of] at hsz
  obtain ⟨hlc, hcap⟩ := hr.len
  have HR := Lib.hid hr; clear hr
  have HE := Lib.hid henv; clear henv hwf
  have hmf : ∀ (fn : Fn) (first cap : Array Value) (w : World), (Instr.makeFunc fn first cap).run Tryz.prog w = .ok (.func fn first cap) w := fun _ _ _ _ => rfl
  go_enter Tryz.func66, Tryz.ntmps66
  go_wp2_with fail
  generalize hW : (w.alloc (Obj.cells #[Value.int IntKind.i64 k, Value.int IntKind.i64 n, Value.int IntKind.i64 x, Value.string s, Value.slice a l.length cap] 26)).alloc (Obj.cells #[.func (.func 67) #[] #[]] 33) = W0
  have q1 : Is W0 w.heap.size 26 #[Value.int IntKind.i64 k, Value.int IntKind.i64 n, Value.int IntKind.i64 x, Value.string s, Value.slice a l.length cap] := by subst hW; exact (Is.new _ _ _).alloc _
  have q2 : Is W0 (w.heap.size + 1) 33 #[.func (.func 67) #[] #[]] := by subst hW; exact Is.new2 _ _ _ _
  have H0 := Lib.hid (show Below w.heap.size w W0 from by subst hW; exact below2 _ _ _)
  have hs0 : W0.heap.size = w.heap.size + 2 := by subst hW; simp
  clear hW
  refine (HPT.out W0 (HR.out.below H0.out hB) trivial (HE.out.step (H0.out.mono hB)) (by omega)).mono ?_
  rintro e w2 ⟨rfl, hb2⟩
  have hs2 := hb2.size
  have p1 := q1.below hb2 (by omega)
  have p2 := q2.below hb2 (by omega)
  obtain ⟨r0, r1, r2, r3, r4⟩ := p1.cells5
  have l1 : w.heap.size < w2.heap.size := by omega
  have HB2 := Lib.hid (H0.out.trans (hb2.mono (by omega)))
  clear HPT
  cases hv : tightU (.mk k n x s l) with
  | false =>
   have HD := Lib.hid (show allB tightU (.mk k n x s l) = false from by rw [HALL.out, hv]; rfl)
   clear hv HALL
   go_wp2_with fail
   go_ret
   exact ⟨ret_b (by rw [HD.out]), HB2.out⟩
  | true =>
   have HD := Lib.hid (show allB tightU (.mk k n x s l) = !(l.any fun x => !allB tightU x) from by rw [HALL.out, hv]; simp only [T.l, Bool.true_and]; exact (any_not_all _ _).symm)
   clear hv HALL
   have H1 : ∀ t ∈ l, ∀ (a : Option Addr) (cap : Nat) (w' : World), Below w2.heap.size w2 w' → R w' B a cap t.l → Wf t → Calls Tryz.prog 119 #[.agg (cV t a cap), .pointer (some ⟨w.heap.size + 1, 0, none⟩)] w' fun e v => e = .returned (.bool (!allB tightU t)) ∧ Below w'.heap.size w' v := by
    intro t ht a3 cap3 w' hb3 hr3 hwf3
    obtain ⟨i, hi, rfl⟩ := List.mem_iff_getElem.1 ht
    have hszi := T.sz_get l i hi
    have hs3 := hb3.size
    have t2 := p2.below hb3 (by omega)
    have c0 := t2.cell 0 rfl
    simp only [List.getElem_toArray, List.getElem_cons_zero] at c0
    have l2 : w.heap.size + 1 < w'.heap.size := by omega
    have HWF := Lib.hid hwf3; clear hwf3
    have HR3 := Lib.hid hr3; clear hr3
    have HB3 := Lib.hid (HB2.out.trans (hb3.mono (by omega)))
    clear hb3 p1 q1 q2 r0 r1 r2 r3 r4 ht
    go_enter Tryz.func119, Tryz.ntmps119
    go_wp2_with fail
    refine (IH.out l[i] (List.getElem_mem hi) a3 cap3 B _ (HR3.out.below (below1 _ _) (by omega)) HWF.out (by omega) (HE.out.step ((HB3.out.mono hB).trans ((below1 _ _).mono (by omega)))) (by simp; omega)).mono ?_
    rintro e w5 ⟨rfl, hb5⟩
    go_wp2_with fail
    go_ret
    exact ⟨rfl, below_step (below1 _ _) hb5 (by simp)⟩
   have cC := has_every_1 (fun x => !allB tightU x) (w.heap.size + 1) l a cap B w2 (HR.out.below HB2.out hB) (by omega) H1
   have CC := Lib.hid cC; clear cC H1
   generalize (l.any fun x => !allB tightU x) = r at *
   go_wp2_with fail
   refine CC.out.mono ?_
   rintro e w6 ⟨rfl, hb6⟩
   go_wp2_with fail
   go_ret
   exact ⟨ret_b (by rw [HD.out]), HB2.out.trans (hb6.mono (by omega))⟩
set_option maxHeartbeats 1000000 in
theorem impl_FitsTight (t : T) (a : Option Addr) (cap B : Nat) (w : World) (hr : R w B a cap t.l) (hwf : Wf t) (hsz : T.sz t ≤ 1048576) (he : Env B w) (hB : B ≤ w.heap.size) :
  Calls Tryz.prog 19 #[.agg (cV t a cap)] w fun e w' => e = .returned (.bool (allB ownB t && allB tightU t)) ∧ Below w.heap.size w w' := by
 have HR := Lib.hid hr; clear hr
 have HE := Lib.hid he; clear he
 have HWF := Lib.hid hwf; clear hwf
 have H0 := Lib.hid (below1 w (.cells (cV t a cap) 26))
 have q0 := Is.new w (cV t a cap) 26
 go_enter Tryz.func19, Tryz.ntmps19
 go_wp2_with fail
 refine (impl_ValOk t a cap B _ (HR.out.below H0.out hB) HWF.out hsz (HE.out.step (H0.out.mono hB)) (by simp; omega)).mono ?_
 rintro e w1 ⟨rfl, hb1⟩
 have HB1 := Lib.hid (below_step H0.out hb1 (by simp))
 have p1 := q0.below hb1 (by simp)
 obtain ⟨r0, r1, r2, r3, r4⟩ := p1.cells5
 have l1 : w.heap.size < w1.heap.size := by have := hb1.size; simp at this; omega
 clear hb1
 cases hv : allB ownB t with
 | false =>
  have HV := Lib.hid hv; clear hv
  go_wp2_with fail
  go_ret
  exact ⟨ret_b (by rw [HV.out]; rfl), HB1.out⟩
 | true =>
  have HV := Lib.hid hv; clear hv
  have HC := Lib.hid (every_tight (fun t a cap B w h1 h2 h3 h4 h5 => impl_tight t a cap B w h1 h2 h3 h4 h5) t a cap B w1 (HR.out.below HB1.out hB) HWF.out hsz (HE.out.step (HB1.out.mono hB)) (by omega))
  go_wp2_with fail
  refine HC.out.mono ?_
  rintro e w2 ⟨rfl, hb2⟩
  go_wp2_with fail
  go_ret
  exact ⟨ret_b (by rw [HV.out]; rfl), HB1.out.trans (hb2.mono HB1.out.size)⟩
theorem numT_size {n : Int} (h : I64 n) : (numT n).size ≤ 21 := by
 have := Lib.itoa_length_le n h.1 h.2
 unfold numT
 simpa [ByteArray.size] using this
def encN (n : Int) : List Int :=
 if n < 128 then [n] else if n < 2048 then [192 + n / 64, 128 + n % 64] else if n < 65536 then [224 + n / 4096, 128 + n / 64 % 64, 128 + n % 64] else [240 + n / 262144, 128 + n / 4096 % 64, 128 + n / 64 % 64, 128 + n % 64]
def digT (n : Int) : ByteArray := ⟨(Lib.decDigits n.natAbs).toArray⟩
theorem digT_size (n : Int) : (digT n).size = digN n := by
 rw [Lib.size_eq]; exact Lib.decDigits_length _
theorem numT_neg {n : Int} (h : n < 0) : numT n = ⟨#[45]⟩ ++ digT n := by
 unfold numT Lib.itoa digT; rw [if_pos h]; apply ByteArray.ext; simp [ByteArray.data_append]
theorem numT_pos {n : Int} (h : ¬ n < 0) : numT n = digT n := by
 unfold numT Lib.itoa digT; rw [if_neg h, show n.toNat = n.natAbs from by omega]
theorem numT_tail {n : Int} (h : n < 0) : (numT n).extract 1 (numT n).size = digT n := by
 apply ByteArray.ext; apply Array.ext'
 rw [Lib.ext_list]
 unfold numT Lib.itoa digT; rw [if_pos h]; simp
def padZ : Nat → Nat → ByteArray → ByteArray
 | 0, _, s => s
 | f + 1, m, s => if s.size ≤ m then padZ f m (⟨#[48]⟩ ++ s) else s
theorem padZ_more (f m : Nat) (s : ByteArray) (h : s.size ≤ m) : padZ (f + 1) m s = padZ f m (⟨#[48]⟩ ++ s) := by rw [padZ, if_pos h]
theorem padZ_done (f m : Nat) (s : ByteArray) (h : ¬ s.size ≤ m) : padZ f m s = s := by
 cases f with
 | zero => rfl
 | succ f => rw [padZ, if_neg h]
def decBody (n : Int) (m : Nat) : ByteArray := ((padZ 60 m (digT n)).extract 0 ((padZ 60 m (digT n)).size - m) ++ ⟨#[46]⟩) ++ (padZ 60 m (digT n)).extract ((padZ 60 m (digT n)).size - m) (padZ 60 m (digT n)).size
def decTx (n : Int) (m : Nat) : ByteArray := if ¬ decOk n (-(m : Int)) then ⟨#[]⟩ else if m = 0 then numT n else if n < 0 then ⟨#[45]⟩ ++ decBody n m else decBody n m
def strSz : Value → Nat | .string s => s.size | _ => 0
theorem padZ_size (f m : Nat) : ∀ s : ByteArray, (padZ f m s).size ≤ s.size + f := by
 induction f with
 | zero => intro s; simp [padZ]
 | succ f ih =>
  intro s
  rw [padZ]
  split
  ·have := ih (⟨#[48]⟩ ++ s)
   rw [ByteArray.size_append] at this
   have h1 : (⟨#[48]⟩ : ByteArray).size = 1 := rfl
   omega
  ·omega
set_option maxHeartbeats 4000000 in
theorem spec_DecText (n : Int) (m : Nat) (w : World) (hn : I64 n) (hm : m ≤ 40) :
  Calls Tryz.prog 111 #[.agg (cF n (-(m : Int)))] w fun e w' => e = .returned (.string (decTx n m)) ∧ Below w.heap.size w w' := by
 have HN := Lib.hid hn
 obtain ⟨hn0, hn1⟩ := hn
 have H0 := Lib.hid (below1 w (.cells (cF n (-(m : Int))) 100))
 have q0 := Is.new w (cF n (-(m : Int))) 100
 have lg : w.heap.size < (w.alloc (.cells (cF n (-(m : Int))) 100)).heap.size := by simp
 go_enter Tryz.func111, Tryz.ntmps111
 go_wp2_with fail
 refine (spec_DecOk n (-(m : Int)) _ HN.out ⟨by omega, by omega⟩).mono ?_
 rintro e w2 ⟨rfl, hb2⟩
 have hl2 : w.heap.size < w2.heap.size := Nat.lt_of_lt_of_le lg hb2.size
 have p2 := q0.below hb2 lg
 obtain ⟨x0, x1⟩ := p2.cells2b
 have HB2 := Lib.hid (below_step H0.out hb2 (by simp)); clear hb2
 by_cases hok : decOk n (-(m : Int))
 ·rw [decide_eq_true hok]
  by_cases h0 : m = 0
  ·have HD := Lib.hid (show decTx n m = numT n from (if_neg (fun h => h hok)).trans (if_pos h0))
   subst h0
   clear hok
   go_wp2_with fail
   refine (spec_NumText n _ HN.out).mono ?_
   rintro e w3 ⟨rfl, hb3⟩
   go_wp2_with fail
   go_ret
   exact ⟨ret_s HD.out.symm, HB2.out.trans (hb3.mono HB2.out.size)⟩
  ·have hd17 : digN n ≤ 17 := by
    rcases hok with h | h
    ·omega
    ·exact h.2.2.1
   have hdz := digT_size n
   have HD := Lib.hid (show decTx n m = if n < 0 then ⟨#[45]⟩ ++ decBody n m else decBody n m from (if_neg (fun h => h hok)).trans (if_neg h0))
   have h0' : ¬ (-(m : Int)) = 0 := by omega
   have z45 : (⟨#[45]⟩ : ByteArray).size = 1 := rfl
   have z46 : (⟨#[46]⟩ : ByteArray).size = 1 := rfl
   have z48 : (⟨#[48]⟩ : ByteArray).size = 1 := rfl
   clear hok h0
   go_wp2_with fail
   refine (spec_NumText n _ HN.out).mono ?_
   rintro e w3 ⟨rfl, hb3⟩
   have hl3 : w.heap.size < w3.heap.size := Nat.lt_of_lt_of_le hl2 hb3.size
   have p3 := p2.below hb3 hl2
   obtain ⟨y0, y1⟩ := p3.cells2b
   have HB3 := Lib.hid (HB2.out.trans (hb3.mono HB2.out.size)); clear hb3
   have HS : ∃ sg : ByteArray, sg.size ≤ 1 ∧ ((n < 0 ∧ sg = ⟨#[45]⟩ ∧ numT n = ⟨#[45]⟩ ++ digT n) ∨ (¬ n < 0 ∧ sg = ⟨#[]⟩ ∧ numT n = digT n)) := by
    by_cases h : n < 0
    ·exact ⟨_, by omega, .inl ⟨h, rfl, numT_neg h⟩⟩
    ·exact ⟨⟨#[]⟩, by simp [ByteArray.size], .inr ⟨h, rfl, numT_pos h⟩⟩
   obtain ⟨sg, hsg, ⟨hng, hsg2, hnm⟩ | ⟨hng, hsg2, hnm⟩⟩ := HS
   all_goals
    have hns : (numT n).size ≤ 18 := by rw [hnm]; first | (rw [ByteArray.size_append]; omega) | omega
    have hns1 : 1 ≤ (numT n).size := by rw [hnm]; first | (rw [ByteArray.size_append]; omega) | (rw [hdz, digN_eq]; omega)
    first
     | have HTL := Lib.hid (numT_tail hng)
     | have HTL := Lib.hid hnm
    clear hnm
    have HFIN : Hid (∀ d : ByteArray, padZ 60 m (digT n) = d → decTx n m = ((sg ++ d.extract 0 (d.size - m)) ++ ⟨#[46]⟩) ++ d.extract (d.size - m) d.size) := by
     intro d hd
     rw [HD.out, hsg2]
     first
      | rw [if_pos hng]
      | rw [if_neg hng]
     unfold decBody
     rw [hd]
     apply ByteArray.ext
     simp [ByteArray.data_append]
    have HEQ := Lib.hid hsg2
    clear hsg2 HD
    go_wp2_with fail
    try rw [HTL.out]
    rw [← HEQ.out]
    clear HEQ HTL hns hns1 hng
    go_loopw [3] (fun s wr => ∃ (d : ByteArray) (f : Nat), s = .string d ∧ f + d.size = 60 + digN n ∧ d.size ≤ 41 ∧ Hid (padZ 60 m (digT n) = padZ f m d) ∧ Below w3.heap.size w3 wr) (fun s _ => 60 - strSz s)
    case atStart => exact ⟨digT n, 60, rfl, by omega, by omega, rfl, Below.refl _ _⟩
    case round =>
     obtain ⟨d, f, rfl, hf, hd41, HP, hb⟩ := hrel
     have hl4 : w.heap.size < wr.heap.size := Nat.lt_of_lt_of_le hl3 hb.size
     have p4 := p3.below hb hl3
     obtain ⟨v0, v1⟩ := p4.cells2b
     by_cases hgo : d.size ≤ m
     ·obtain ⟨f', rfl⟩ : ∃ f', f = f' + 1 := ⟨f - 1, by omega⟩
      have HE := Lib.hid (HP.out.trans (padZ_more f' m d hgo))
      go_wp2_with fail
      go_roundw
      case rel => exact ⟨_, f', rfl, by rw [ByteArray.size_append]; omega, by rw [ByteArray.size_append]; omega, HE.out, hb⟩
      case measure => simp only [strSz, ByteArray.size_append]; first | omega | (simp [strSz]; omega)
     ·have HE := Lib.hid (HFIN.out d (HP.out.trans (padZ_done f m d hgo)))
      have hsub : (d.size : Int) + -(m : Int) = ((d.size - m : Nat) : Int) := by omega
      have hx1 : (d.extract 0 (d.size - m)).size ≤ 41 := by rw [ByteArray.size_extract]; omega
      have hx2 : (d.extract (d.size - m) d.size).size ≤ 41 := by rw [ByteArray.size_extract]; omega
      clear HP HFIN
      go_wp2_with fail
      go_quiet (fail)
      go_wp2_with fail
      go_ret
      exact ⟨ret_s HE.out.symm, (HB3.out.trans (hb.mono HB3.out.size)).trans (below_drewN _ _ _)⟩
 ·have HD := Lib.hid (show decTx n m = ⟨#[]⟩ from if_pos hok)
  rw [decide_eq_false hok]
  clear hok
  go_wp2_with fail
  go_ret
  exact ⟨ret_s HD.out.symm, HB2.out⟩
def wrP (t : T) : Prop := (t.k = 1 ∨ t.k = 2 ∨ t.k = 4 ∨ t.k = 7 ∨ t.k = 9 ∨ t.k = 10) ∨ (t.k = 3 ∧ -1000000000000000 ≤ t.n ∧ t.n ≤ 1000000000000000) ∨ (t.k = 6 ∧ -16 ≤ t.x ∧ t.x ≤ 0)
instance (t : T) : Decidable (wrP t) := by unfold wrP; exact inferInstance
theorem decTx_size (n : Int) (m : Nat) : (decTx n m).size ≤ 200 := by
 unfold decTx
 by_cases h : decOk n (-(m : Int))
 ·have hd : digN n ≤ 20 := by
   unfold decOk at h
   rcases h with ⟨_, h1, h2⟩ | ⟨_, _, h1, _⟩
   ·exact digN_le n ⟨by omega, by omega⟩
   ·omega
  have h1 := digT_size n
  have h2 := padZ_size 60 m (digT n)
  have z1 : (⟨#[45]⟩ : ByteArray).size = 1 := rfl
  have z2 : (⟨#[46]⟩ : ByteArray).size = 1 := rfl
  rw [if_neg (fun hn => hn h)]
  by_cases h0 : m = 0
  ·rw [if_pos h0]
   by_cases hn : n < 0
   ·rw [numT_neg hn, ByteArray.size_append]; omega
   ·rw [numT_pos hn]; omega
  ·rw [if_neg h0]
   unfold decBody
   split
   ·simp only [ByteArray.size_append, ByteArray.size_extract]; omega
   ·simp only [ByteArray.size_append, ByteArray.size_extract]; omega
 ·rw [if_pos h]; exact Nat.zero_le _
def NB (w w' : World) : Prop := ∀ f, f < w.heap.size → (∀ cur, w.heap[f]? ≠ some (.cells cur 5 (0, 0))) → w'.heap[f]? = w.heap[f]?
theorem NB.refl (w : World) : NB w w := fun _ _ _ => rfl
theorem NB.trans {w w1 w2 : World} (h : NB w w1) (h2 : NB w1 w2) (hs : w.heap.size ≤ w1.heap.size) : NB w w2 := fun f hf hn => by
 have e := h f hf hn
 exact (h2 f (by omega) (fun cur => by rw [e]; exact hn cur)).trans e
theorem NB.of {w w' : World} (h : Below w.heap.size w w') : NB w w' := fun f hf _ => h.block f hf
theorem NB.is {w w' : World} {g : Nat} {e : TypeId} {cs : Array Value} (h : NB w w') (hi : Is w g e cs) (he : e ≠ 5) : Is w' g e cs := (h g hi.lt (fun cur hc => by
 have := hi.symm.trans hc
 simp only [Option.some.injEq, Obj.cells.injEq] at this
 exact he this.2.1)).trans hi
def writeTL (t : T) : List Int := if (allB ownB t && allB tightU t) = true then packT t else []
set_option maxHeartbeats 1000000 in
theorem impl_WriteTight (t : T) (a : Option Addr) (cap B : Nat) (w : World) (hr : R w B a cap t.l) (hwf : Wf t) (hsz : T.sz t ≤ 1048576) (he : Env B w) (hB : B ≤ w.heap.size) :
  Calls Tryz.prog 11 #[.agg (cV t a cap)] w fun e w' => ∃ a' cap', e = .returned (.slice a' (writeTL t).length cap') ∧ AppL EByte 1 5 w' w.heap.size a' cap' (writeTL t) [] ∧ Below w.heap.size w w' := by
 have HR := Lib.hid hr; clear hr
 have HE := Lib.hid he; clear he
 have HWF := Lib.hid hwf; clear hwf
 have H0 := Lib.hid (below1 w (.cells (cV t a cap) 26))
 have q0 := Is.new w (cV t a cap) 26
 go_enter Tryz.func11, Tryz.ntmps11
 go_wp2_with fail
 refine (impl_FitsTight t a cap B _ (HR.out.below H0.out hB) HWF.out hsz (HE.out.step (H0.out.mono hB)) (by simp; omega)).mono ?_
 rintro e w1 ⟨rfl, hb1⟩
 have HB1 := Lib.hid (below_step H0.out hb1 (by simp))
 have p1 := q0.below hb1 (by simp)
 obtain ⟨r0, r1, r2, r3, r4⟩ := p1.cells5
 have l1 : w.heap.size < w1.heap.size := by have := hb1.size; simp at this; omega
 clear hb1
 cases hv : (allB ownB t && allB tightU t) with
 | false =>
  have HD := Lib.hid (show writeTL t = [] from if_neg (by rw [hv]; simp))
  clear hv
  go_wp2_with fail
  go_ret
  exact ⟨none, 0, ret_sl (by rw [HD.out]; rfl), by rw [HD.out]; exact Or.inl ⟨rfl, rfl, rfl, rfl⟩, HB1.out⟩
 | true =>
  have HD := Lib.hid (show writeTL t = packT t from if_pos hv)
  clear hv
  go_wp2_with fail
  refine (impl_PackTight t a cap B w1 (HR.out.below HB1.out hB) HWF.out hsz (by omega)).mono ?_
  rintro e w2 ⟨a2, c2, rfl, happ2, hb2⟩
  have HA2 := Lib.hid (happ2.less (show w.heap.size ≤ _ by omega))
  have HB2 := Lib.hid (HB1.out.trans (hb2.mono HB1.out.size))
  clear happ2 hb2
  go_wp2_with fail
  go_ret
  exact ⟨a2, c2, ret_sl (by rw [HD.out]), by rw [HD.out]; exact HA2.out, HB2.out⟩
end Go.Proofs.YtggdenkmohnijaaGreatDoor
