/- Texts of this proof, merged: FitsK, TightP, AppT, Less, Tig1, Tig2. No condition beyond what each theorem states. -/
import Derived.Test.YthpmfkkmhbbloaaGreatDoorRows
import Derived.WalkKit
import Derived.ProofKit
import Derived.OpenShut
import Derived.Handy
import Derived.Lib.Hide
import Derived.Lib.SmallJoins
import Derived.Deep.RegionHeld3
import Derived.Deep.AppendLies
import Derived.Deep.RegionLaw
import Derived.Deep.QuietTactic
import Derived.BigQuiet
import Derived.Test.YthpmfkkmhbbloaaGreatDoorZF1
import Derived.Test.YthpmfkkmhbbloaaGreatDoorZF2
import Derived.Test.YthpmfkkmhbbloaaGreatDoorZF3
import Derived.Test.YthpmfkkmhbbloaaGreatDoorZF7
import Derived.Test.YthpmfkkmhbbloaaGreatDoorZF8
import Derived.Test.YthpmfkkmhbbloaaGreatDoorShelf
import Derived.Test.YthpmfkkmhbbloaaGreatDoorZF4
import Derived.Test.YthpmfkkmhbbloaaGreatDoorZF5
import Derived.Test.YthpmfkkmhbbloaaGreatDoorZF6
import Derived.Test.YthpmfkkmhbbloaaGreatDoorZF9
import Derived.Test.YthpmfkkmhbbloaaGreatDoorZF12
import Derived.Test.YthpmfkkmhbbloaaGreatDoorZF15
import Derived.Lib.AppendStr
import Derived.Lib.AppendZeros
import Derived.Test.YthpmfkkmhbbloaaGreatDoorZF10
import Derived.Laws.Bits64
import Derived.Laws.Bits64b
import Derived.Deep.CutBlock
import Derived.Deep.DeepCutAuto
import Derived.Test.YthpmfkkmhbbloaaGreatDoorZF11
set_option linter.unusedSimpArgs false
set_option linter.unnecessarySimpa false
namespace Go.Proofs.YthpmfkkmhbbloaaGreatDoor
open Go.ChangeShapes Go.WideShapes Go.ChangeAt Go.RowKit Go.Joins
set_option linter.unusedVariables false
set_option maxRecDepth 100000
theorem markForD_i64 (t : T) (hwf : Wf t) (hsz : T.sz t ≤ 1048576) : I64 (markForD t).2 := by
  have h1 := T.length_le_szL t.l
  have h2 := sz_list t
  have h3 := sz_string t
  have h4 := fltBitsD_in t.n t.x
  obtain ⟨_, hn, _, _⟩ := hwf
  unfold markForD
  repeat' split
  all_goals first
    | exact hn
    | exact ⟨by simp only; omega, by simp only; omega⟩
/-- Can a right value stand in the packed format? -/
def packB (t : T) : Bool := (decide (t.k ≠ 6) && decide (t.k ≠ 11)) && (onceB t && markOkD (markForD t).1 (markForD t).2)
theorem packB_6 {t : T} (h : t.k = 6) : packB t = false := by unfold packB; rw [h]; rfl
theorem packB_11 {t : T} (h : t.k = 11) : packB t = false := by unfold packB; rw [h]; rfl
theorem packB_else {t : T} (h : ¬ t.k = 6) (h2 : ¬ t.k = 11) : packB t = (onceB t && markOkD (markForD t).1 (markForD t).2) := by unfold packB; rw [decide_eq_true h, decide_eq_true h2]; rfl
set_option maxHeartbeats 2000000 in
theorem impl_pack (t : T) (a : Option Addr) (cap B : Nat) (w : World) (hr : R w B a cap t.l) (hwf : Wf t) (hsz : T.sz t ≤ 1048576) (he : Env B w) (hB : B ≤ w.heap.size) :
    Calls Tryz.prog 48 #[.agg (cV t a cap)] w fun e w' => e = .returned (.bool (packB t)) ∧ Below w.heap.size w w' := by
  have hlc : t.l.length ≤ 1073741824 := by have := T.length_le_szL t.l; have := sz_list t; omega
  have HR := Lib.hid hr; clear hr
  have HTN := Lib.hid (fun W (h : R W B a cap t.l) (hb : B ≤ W.heap.size) => impl_OnceEach t a cap B W h hb hlc)
  have HMF := Lib.hid (fun W (h : R W B a cap t.l) (hb : B ≤ W.heap.size) => impl_MarkFor t a cap B W h hwf hb)
  have HMI := Lib.hid (markForD_i64 t hwf hsz)
  have q0 := Is.new w (cV t a cap) 29
  have H0 := Lib.hid (below1 w (.cells (cV t a cap) 29))
  have lg : w.heap.size < (w.alloc (.cells (cV t a cap) 29)).heap.size := by simp
  clear hwf he
  by_cases h6 : t.k = 6
  · have HD := Lib.hid (packB_6 h6)
    obtain ⟨k, n, x, s, l⟩ := t
    simp only [T.k, T.n, T.x, T.s, T.l, cV] at *
    subst h6
    go_enter Tryz.func48, Tryz.ntmps48
    go_wp2_with fail
    go_ret
    exact ⟨ret_b (by rw [HD.out]), below1 _ _⟩
  by_cases h11 : t.k = 11
  · have HD := Lib.hid (packB_11 h11)
    obtain ⟨k, n, x, s, l⟩ := t
    simp only [T.k, T.n, T.x, T.s, T.l, cV] at *
    subst h11
    go_enter Tryz.func48, Tryz.ntmps48
    go_wp2_with fail
    go_ret
    exact ⟨ret_b (by rw [HD.out]), below1 _ _⟩
  have HD := Lib.hid (packB_else h6 h11)
  obtain ⟨o1, ho1⟩ : ∃ r, onceB t = r := ⟨_, rfl⟩
  obtain ⟨⟨mk, mn⟩, hmk⟩ : ∃ r, markForD t = r := ⟨_, rfl⟩
  rw [ho1] at HD HTN
  rw [hmk] at HD HMF HMI
  simp only at HD HMF HMI
  clear ho1 hmk
  obtain ⟨k, n, x, s, l⟩ := t
  simp only [T.k, T.n, T.x, T.s, T.l, cV] at *
  have g6 : (k != 6) = true := by simp [h6]
  have g11 : (k != 11) = true := by simp [h11]
  go_enter Tryz.func48, Tryz.ntmps48
  go_wp2_with fail
  refine (HTN.out _ (HR.out.below H0.out hB) (by simp; omega)).mono ?_
  rintro e w2 ⟨rfl, hb2⟩
  have HB2 := Lib.hid (below_step H0.out hb2 (by simp))
  have p2 := q0.below hb2 lg
  obtain ⟨y0, y1, y2, y3, y4⟩ := p2.cells5
  have hlt3 : w.heap.size < w2.heap.size := p2.lt
  clear hb2
  cases o1 with
  | false =>
    go_wp2_with fail
    go_ret
    exact ⟨ret_b (by rw [HD.out]; rfl), HB2.out⟩
  | true =>
    go_wp2_with fail
    refine (HMF.out _ (HR.out.below HB2.out hB) (by omega)).mono ?_
    rintro e w3 ⟨rfl, hb3⟩
    have HB3 := Lib.hid (HB2.out.trans (hb3.mono HB2.out.size))
    clear hb3
    go_wp2_with fail
    refine (impl_MarkOk mk mn _ HMI.out).mono ?_
    rintro e w4 ⟨rfl, hb4⟩
    have HB4 := Lib.hid (HB3.out.trans (hb4.mono HB3.out.size))
    clear hb4
    go_wp2_with fail
    go_ret
    exact ⟨ret_b (by rw [HD.out]; rfl), HB4.out⟩
set_option maxHeartbeats 2000000 in
theorem every_pack (hp : ∀ t : T, ∀ (a : Option Addr) (cap B : Nat) (w : World), R w B a cap t.l → Wf t → T.sz t ≤ 1048576 → Env B w → B ≤ w.heap.size → Calls Tryz.prog 48 #[.agg (cV t a cap)] w fun e v => e = .returned (.bool (packB t)) ∧ Below w.heap.size w v) :
    ∀ t : T, ∀ (a : Option Addr) (cap B : Nat) (w : World), R w B a cap t.l → Wf t → T.sz t ≤ 1048576 → Env B w → B ≤ w.heap.size →
    Calls Tryz.prog 42 #[.agg (cV t a cap), .func (.func 48) #[] #[]] w fun e w' => e = .returned (.bool (allB packB t)) ∧ Below w.heap.size w w' := by
  have HP := Lib.hid hp; clear hp
  intro t
  induction t using T.ind with
  | h k n x s l ih =>
    intro a cap B w hr hwf hsz henv hB
    have IH := Lib.hid ih; clear ih
    have HPT := Lib.hid (fun W h1 h2 h3 h4 => HP.out (.mk k n x s l) a cap B W h1 hwf hsz h3 h4 : ∀ W, R W B a cap l → True → Env B W → B ≤ W.heap.size → _)
    have HALL := Lib.hid (allB_eq packB (.mk k n x s l))
    simp only [cV, T.k, T.n, T.x, T.s, T.l] at hr HPT ⊢
    rw [sz_of] at hsz
    obtain ⟨hlc, hcap⟩ := hr.len
    have HR := Lib.hid hr; clear hr
    have HE := Lib.hid henv; clear henv hwf
    have hmf : ∀ (fn : Fn) (first cap : Array Value) (w : World), (Instr.makeFunc fn first cap).run Tryz.prog w = .ok (.func fn first cap) w := fun _ _ _ _ => rfl
    go_enter Tryz.func42, Tryz.ntmps42
    go_wp2_with fail
    generalize hW : (w.alloc (Obj.cells #[Value.int IntKind.i64 k, Value.int IntKind.i64 n, Value.int IntKind.i64 x, Value.string s, Value.slice a l.length cap] 29)).alloc (Obj.cells #[.func (.func 48) #[] #[]] 39) = W0
    have q1 : Is W0 w.heap.size 29 #[Value.int IntKind.i64 k, Value.int IntKind.i64 n, Value.int IntKind.i64 x, Value.string s, Value.slice a l.length cap] := by subst hW; exact (Is.new _ _ _).alloc _
    have q2 : Is W0 (w.heap.size + 1) 39 #[.func (.func 48) #[] #[]] := by subst hW; exact Is.new2 _ _ _ _
    have H0 := Lib.hid (show Below w.heap.size w W0 from by subst hW; exact below2 _ _ _)
    have hs0 : W0.heap.size = w.heap.size + 2 := by subst hW; simp
    clear hW
    refine (HPT.out W0 (HR.out.below H0.out hB) trivial (HE.out.step (H0.out.mono hB)) (by omega)).mono ?_
    rintro e w2 ⟨rfl, hb2⟩
    have hs2 := hb2.size
    have p1 := q1.below hb2 (by omega)
    have p2 := q2.below hb2 (by omega)
    obtain ⟨r0, r1, r2, r3, r4⟩ := p1.cells5
    have l1 : w.heap.size < w2.heap.size := by omega
    have HB2 := Lib.hid (H0.out.trans (hb2.mono (by omega)))
    clear HPT
    cases hv : packB (.mk k n x s l) with
    | false =>
      have HD := Lib.hid (show allB packB (.mk k n x s l) = false from by rw [HALL.out, hv]; rfl)
      clear hv HALL
      go_wp2_with fail
      go_ret
      exact ⟨ret_b (by rw [HD.out]), HB2.out⟩
    | true =>
      have HD := Lib.hid (show allB packB (.mk k n x s l) = !(l.any fun x => !allB packB x) from by rw [HALL.out, hv]; simp only [T.l, Bool.true_and]; exact (any_not_all _ _).symm)
      clear hv HALL
      have H1 : ∀ t ∈ l, ∀ (a : Option Addr) (cap : Nat) (w' : World), Below w2.heap.size w2 w' → R w' B a cap t.l → Wf t → Calls Tryz.prog 74 #[.agg (cV t a cap), .pointer (some ⟨w.heap.size + 1, 0, none⟩)] w' fun e v => e = .returned (.bool (!allB packB t)) ∧ Below w'.heap.size w' v := by
        intro t ht a3 cap3 w' hb3 hr3 hwf3
        obtain ⟨i, hi, rfl⟩ := List.mem_iff_getElem.1 ht
        have hszi := T.sz_get l i hi
        have hs3 := hb3.size
        have t2 := p2.below hb3 (by omega)
        have c0 := t2.cell 0 rfl
        simp only [List.getElem_toArray, List.getElem_cons_zero] at c0
        have l2 : w.heap.size + 1 < w'.heap.size := by omega
        have HWF := Lib.hid hwf3; clear hwf3
        have HR3 := Lib.hid hr3; clear hr3
        have HB3 := Lib.hid (HB2.out.trans (hb3.mono (by omega)))
        clear hb3 p1 q1 q2 r0 r1 r2 r3 r4 ht
        go_enter Tryz.func74, Tryz.ntmps74
        go_wp2_with fail
        refine (IH.out l[i] (List.getElem_mem hi) a3 cap3 B _ (HR3.out.below (below1 _ _) (by omega)) HWF.out (by omega) (HE.out.step ((HB3.out.mono hB).trans ((below1 _ _).mono (by omega)))) (by simp; omega)).mono ?_
        rintro e w5 ⟨rfl, hb5⟩
        go_wp2_with fail
        go_ret
        exact ⟨rfl, below_step (below1 _ _) hb5 (by simp)⟩
      have cC := has_every_1 (fun x => !allB packB x) (w.heap.size + 1) l a cap B w2 (HR.out.below HB2.out hB) (by omega) H1
      have CC := Lib.hid cC; clear cC H1
      generalize (l.any fun x => !allB packB x) = r at *
      go_wp2_with fail
      refine CC.out.mono ?_
      rintro e w6 ⟨rfl, hb6⟩
      go_wp2_with fail
      go_ret
      exact ⟨ret_b (by rw [HD.out]), HB2.out.trans (hb6.mono (by omega))⟩
set_option maxHeartbeats 1000000 in
theorem impl_FitsPacked (t : T) (a : Option Addr) (cap B : Nat) (w : World) (hr : R w B a cap t.l) (hwf : Wf t) (hsz : T.sz t ≤ 1048576) (he : Env B w) (hB : B ≤ w.heap.size) :
    Calls Tryz.prog 24 #[.agg (cV t a cap)] w fun e w' => e = .returned (.bool (allB ownB t && allB packB t)) ∧ Below w.heap.size w w' := by
  have HR := Lib.hid hr; clear hr
  have HE := Lib.hid he; clear he
  have HWF := Lib.hid hwf; clear hwf
  have H0 := Lib.hid (below1 w (.cells (cV t a cap) 29))
  have q0 := Is.new w (cV t a cap) 29
  go_enter Tryz.func24, Tryz.ntmps24
  go_wp2_with fail
  refine (impl_ValOk t a cap B _ (HR.out.below H0.out hB) HWF.out hsz (HE.out.step (H0.out.mono hB)) (by simp; omega)).mono ?_
  rintro e w1 ⟨rfl, hb1⟩
  have HB1 := Lib.hid (below_step H0.out hb1 (by simp))
  have p1 := q0.below hb1 (by simp)
  obtain ⟨r0, r1, r2, r3, r4⟩ := p1.cells5
  have l1 : w.heap.size < w1.heap.size := by have := hb1.size; simp at this; omega
  clear hb1
  cases hv : allB ownB t with
  | false =>
    have HV := Lib.hid hv; clear hv
    go_wp2_with fail
    go_ret
    exact ⟨ret_b (by rw [HV.out]; rfl), HB1.out⟩
  | true =>
    have HV := Lib.hid hv; clear hv
    have HC := Lib.hid (every_pack (fun t a cap B w h1 h2 h3 h4 h5 => impl_pack t a cap B w h1 h2 h3 h4 h5) t a cap B w1 (HR.out.below HB1.out hB) HWF.out hsz (HE.out.step (HB1.out.mono hB)) (by omega))
    go_wp2_with fail
    refine HC.out.mono ?_
    rintro e w2 ⟨rfl, hb2⟩
    go_wp2_with fail
    go_ret
    exact ⟨ret_b (by rw [HV.out]; rfl), HB1.out.trans (hb2.mono HB1.out.size)⟩
set_option maxHeartbeats 4000000 in
theorem spec_l16Fits : ∀ t : T, ∀ (a : Option Addr) (cap B : Nat) (w : World), R w B a cap t.l → Wf t → T.sz t ≤ 1048576 → B ≤ w.heap.size →
    Calls Tryz.prog 39 #[.agg (cV t a cap)] w fun e w' => e = .returned (.bool (allB packB t)) ∧ Below w.heap.size w w' := by
  intro t
  induction t using T.ind with
  | h k n x s l ih =>
    intro a cap B w hr hwf hsz hB
    have IH := Lib.hid ih; clear ih
    have HMF := Lib.hid (fun W (h : R W B a cap l) (hb : B ≤ W.heap.size) => spec_MarkFor (.mk k n x s l) a cap B W h hwf hb)
    have HMI := Lib.hid (markForD_i64 (.mk k n x s l) hwf hsz)
    obtain ⟨hk, hn, hx, _⟩ := hwf
    have hct : T.count (.mk k n x s l) ≤ 1073741824 := by have := T.countL_le_szL (.mk k n x s l); omega
    have HTN := Lib.hid (fun W (h : R W B a cap l) (hb : B ≤ W.heap.size) => spec_OnceEach (.mk k n x s l) a cap B W h hb hct)
    simp only [cV, T.k, T.n, T.x, T.s, T.l] at hr hk hn hx HTN HMF ⊢
    obtain ⟨hk0, hk1⟩ := hk
    rw [sz_of] at hsz
    obtain ⟨hlc, hcap⟩ := hr.len
    have HR := Lib.hid hr; clear hr hct
    have HALL0 := Lib.hid (allB_eq packB (.mk k n x s l))
    go_enter Tryz.func39, Tryz.ntmps39
    go_wp2_with fail
    generalize hW : w.alloc (Obj.cells #[Value.int IntKind.i64 k, Value.int IntKind.i64 n, Value.int IntKind.i64 x, Value.string s, Value.slice a l.length cap] 29) = W0
    have q1 : Is W0 w.heap.size 29 #[Value.int IntKind.i64 k, Value.int IntKind.i64 n, Value.int IntKind.i64 x, Value.string s, Value.slice a l.length cap] := by subst hW; exact Is.new _ _ _
    have H0 := Lib.hid (show Below w.heap.size w W0 from by subst hW; exact below1 _ _)
    have hs0 : W0.heap.size = w.heap.size + 1 := by subst hW; simp
    clear hW
    go_loopw [3] (fun i wr => ∃ (j : Nat), j ≤ l.length ∧ i = .int .i64 j ∧ Hid ((l.take j).all (allB packB) = true) ∧ Below W0.heap.size W0 wr) (fun i _ => l.length - (intOf i).toNat)
    case atStart => exact ⟨0, Nat.zero_le _, rfl, rfl, Below.refl _ _⟩
    case round =>
      obtain ⟨j, hj, rfl, HA, hb⟩ := hrel
      have hbs := hb.size
      have hbox := q1.below hb (by omega)
      obtain ⟨x0, x1, x2, x3, x4⟩ := hbox.cells5
      have hlt2 : w.heap.size < wr.heap.size := by omega
      have HBw := Lib.hid (H0.out.trans (hb.mono (by omega)))
      by_cases hlt : j < l.length
      · obtain ⟨b, o, a2, cap2, rfl, hbl, d0, d1, d2, d3, d4, hwfj, hq⟩ := (HR.out.below HBw.out hB).get j hlt
        have hlb : b < wr.heap.size := by omega
        have hszj := T.sz_get l j hlt
        have HWF := Lib.hid hwfj; clear hwfj
        have HQ := Lib.hid hq; clear hq
        have HT := Lib.hid (all_take_succ (allB packB) l j hlt)
        have HF := Lib.hid (all_false (allB packB) l j hlt)
        go_wp2_with fail
        refine (IH.out l[j] (List.getElem_mem hlt) a2 cap2 B wr HQ.out HWF.out (by omega) (by omega)).mono ?_
        rintro e w2 ⟨rfl, hb2⟩
        cases hv : allB packB l[j] with
        | false =>
          have HE := Lib.hid (show allB packB (.mk k n x s l) = false from by rw [HALL0.out]; simp only [T.l]; rw [HF.out hv, Bool.and_false])
          clear HF HT hv
          go_wp2_with fail
          go_ret
          exact ⟨ret_b (by rw [HE.out]), HBw.out.trans (hb2.mono HBw.out.size)⟩
        | true =>
          have HE := Lib.hid (show (l.take (j + 1)).all (allB packB) = true from by rw [HT.out, HA.out, hv]; rfl)
          clear HF HT hv
          go_wp2_with fail
          go_roundw
          case rel => exact ⟨j + 1, by omega, by go_num, HE.out, hb.trans (hb2.mono hbs)⟩
          case measure => simp [intOf]; omega
      · have hjj : l.length = j := by omega
        have HJ := Lib.hid (show l.take j = l from by rw [← hjj, List.take_length]); clear hjj
        have HALL := Lib.hid (show allB packB (.mk k n x s l) = packB (.mk k n x s l) from by rw [HALL0.out]; simp only [T.l]; rw [show l.all (allB packB) = true from by rw [← HJ.out]; exact HA.out, Bool.and_true])
        have q1' := q1; have hb' := hb
        clear HA HJ IH HALL0 H0
        have HBs := Lib.hid HBw.out.size
        by_cases h6 : k = 6
        · have HD := Lib.hid (HALL.out.trans (packB_6 (t := .mk k n x s l) h6))
          subst h6
          go_wp2_with fail
          go_ret
          exact ⟨ret_b (by rw [HD.out]), HBw.out⟩
        by_cases h11 : k = 11
        · have HD := Lib.hid (HALL.out.trans (packB_11 (t := .mk k n x s l) h11))
          subst h11
          go_wp2_with fail
          go_ret
          exact ⟨ret_b (by rw [HD.out]), HBw.out⟩
        have HD := Lib.hid (HALL.out.trans (packB_else (t := .mk k n x s l) h6 h11))
        have g6 : (k != 6) = true := by simp [h6]
        have g11 : (k != 11) = true := by simp [h11]
        have hbox1 := q1'.below hb' (by omega)
        obtain ⟨o1, ho1⟩ : ∃ r, onceB (.mk k n x s l) = r := ⟨_, rfl⟩
        obtain ⟨⟨mk, mn⟩, hmk⟩ : ∃ r, markForD (.mk k n x s l) = r := ⟨_, rfl⟩
        rw [ho1] at HD HTN
        rw [hmk] at HD HMF HMI
        simp only at HD HMF HMI
        clear ho1 hmk
        go_wp2_with fail
        refine (HTN.out _ (HR.out.below HBw.out hB) (by omega)).mono ?_
        rintro e w2 ⟨rfl, hb2⟩
        have HB2 := Lib.hid (HBw.out.trans (hb2.mono HBw.out.size))
        have hbox2 := hbox1.below hb2 (by omega)
        obtain ⟨y0, y1, y2, y3, y4⟩ := hbox2.cells5
        have hlt3 : w.heap.size < w2.heap.size := by have := hb2.size; omega
        clear hb2 x0 x1 x2 x3 x4
        cases o1 with
        | false =>
          go_wp2_with fail
          go_ret
          exact ⟨ret_b (by rw [HD.out]; rfl), HB2.out⟩
        | true =>
          go_wp2_with fail
          refine (HMF.out _ (HR.out.below HB2.out hB) (by omega)).mono ?_
          rintro e w3 ⟨rfl, hb3⟩
          have HB3 := Lib.hid (HB2.out.trans (hb3.mono HB2.out.size))
          clear hb3
          go_wp2_with fail
          refine (spec_MarkOk mk mn _ HMI.out).mono ?_
          rintro e w4 ⟨rfl, hb4⟩
          have HB4 := Lib.hid (HB3.out.trans (hb4.mono HB3.out.size))
          clear hb4
          go_wp2_with fail
          go_ret
          exact ⟨ret_b (by rw [HD.out]; rfl), HB4.out⟩
set_option maxHeartbeats 1000000 in
theorem spec_FitsPacked (t : T) (a : Option Addr) (cap B : Nat) (w : World) (hr : R w B a cap t.l) (hwf : Wf t) (hsz : T.sz t ≤ 1048576) (hB : B ≤ w.heap.size) :
    Calls Tryz.prog 19 #[.agg (cV t a cap)] w fun e w' => e = .returned (.bool (allB ownB t && allB packB t)) ∧ Below w.heap.size w w' := by
  have HR := Lib.hid hr; clear hr
  have HWF := Lib.hid hwf; clear hwf
  have H0 := Lib.hid (below1 w (.cells (cV t a cap) 29))
  have q0 := Is.new w (cV t a cap) 29
  go_enter Tryz.func19, Tryz.ntmps19
  go_wp2_with fail
  refine (spec_ValOk t a cap B _ (HR.out.below H0.out hB) HWF.out hsz (by simp; omega)).mono ?_
  rintro e w1 ⟨rfl, hb1⟩
  have HB1 := Lib.hid (below_step H0.out hb1 (by simp))
  have p1 := q0.below hb1 (by simp)
  obtain ⟨r0, r1, r2, r3, r4⟩ := p1.cells5
  have l1 : w.heap.size < w1.heap.size := by have := hb1.size; simp at this; omega
  clear hb1
  cases hv : allB ownB t with
  | false =>
    have HV := Lib.hid hv; clear hv
    go_wp2_with fail
    go_ret
    exact ⟨ret_b (by rw [HV.out]; rfl), HB1.out⟩
  | true =>
    have HV := Lib.hid hv; clear hv
    go_wp2_with fail
    refine (spec_l16Fits t a cap B _ (HR.out.below HB1.out hB) HWF.out hsz (by omega)).mono ?_
    rintro e w2 ⟨rfl, hb2⟩
    go_wp2_with fail
    go_ret
    exact ⟨ret_b (by rw [HV.out]; rfl), HB1.out.trans (hb2.mono HB1.out.size)⟩
end Go.Proofs.YthpmfkkmhbbloaaGreatDoor
namespace Go.Proofs.YthpmfkkmhbbloaaGreatDoor
open Go.ChangeShapes Go.WideShapes Go.ChangeAt Go.RowKit Go.Joins
set_option linter.unusedVariables false
set_option maxRecDepth 100000
/-! ### The names ascend: no program in sight -/
/-- The first j of these ascend. -/
def ascU (ns : List T) : Nat → Bool
  | 0 => true
  | 1 => true
  | j + 2 => ascU ns (j + 1) && lexB (packT (ns.getD j zT)) (packT (ns.getD (j + 1) zT))
theorem ascU_succ (ns : List T) (j : Nat) (h : j + 1 < ns.length) : ascU ns (j + 2) = (ascU ns (j + 1) && lexB (packT ns[j]) (packT ns[j + 1])) := by
  rw [ascU, List.getD_eq_getElem?_getD, List.getD_eq_getElem?_getD, List.getElem?_eq_getElem h, List.getElem?_eq_getElem (by omega)]; rfl
theorem ascU_false (ns : List T) (j n : Nat) (h : j ≤ n) (hf : ascU ns j = false) : ascU ns n = false := by
  induction n with
  | zero => rw [show j = 0 from by omega] at hf; exact hf
  | succ n ih =>
    by_cases hj : j = n + 1
    · subst hj; exact hf
    · have := ih (by omega)
      cases n with
      | zero => rw [ascU] at this; cases this
      | succ n => rw [ascU, this]; rfl
theorem evN_get (l : List T) (p j : Nat) (h : j < p) (hp : 2 * j < l.length) : (evN l p)[j]'(by rw [evN_len]; exact h) = l[2 * j] := by
  induction p with
  | zero => omega
  | succ p ih =>
    simp only [evN]
    by_cases hj : j < p
    · rw [List.getElem_append_left (by rw [evN_len]; exact hj)]; exact ih hj
    · have hjp : j = p := by omega
      subst hjp
      rw [List.getElem_append_right (by rw [evN_len]; omega)]
      simp only [List.getElem_singleton]
      rw [List.getD_eq_getElem?_getD, List.getElem?_eq_getElem hp]; rfl
/-- The names of a map ascend in the compact format, and there is no decimal number. -/
def tightU (t : T) : Bool := ascU (namesT t) (namesT t).length && decide (t.k ≠ 6)
theorem tightU_not {t : T} (h : t.k ≠ 10) : tightU t = decide (t.k ≠ 6) := by
  unfold tightU namesT; rw [if_neg h]; rfl
theorem tightU_map {t : T} (h : t.k = 10) : tightU t = ascU (evN t.l ((t.l.length + 1) / 2)) ((t.l.length + 1) / 2) := by
  unfold tightU namesT; rw [if_pos h, evN_len, decide_eq_true (by omega), Bool.and_true]
theorem evAsc_succ (l : List T) (p j : Nat) (hp : p = (l.length + 1) / 2) (h : 2 * j + 2 < l.length) : ascU (evN l p) (j + 2) = (ascU (evN l p) (j + 1) && lexB (packT l[2 * j]) (packT l[2 * j + 2])) := by
  have e1 : j + 1 < (evN l p).length := by rw [evN_len]; omega
  rw [ascU_succ _ _ e1, evN_get l p j (by omega) (by omega), evN_get l p (j + 1) (by omega) (by omega)]; rfl
end Go.Proofs.YthpmfkkmhbbloaaGreatDoor
namespace Go.Proofs.YthpmfkkmhbbloaaGreatDoor
open Go.ChangeShapes Go.WideShapes Go.ChangeAt Go.RowKit Go.Joins
set_option linter.unusedVariables false
set_option maxRecDepth 100000
/-- append(out, s...) of a string, as an equation of the run. -/
theorem run_appStr {P : Program} (w : World) (t u ty : TypeId) {e : TypeId} (ht : P.underlying t = some (.slice e)) (hu : P.underlying u = some .string) (hinfo : (P.info? e).map (fun i => (i.zero, i.size, i.bytes)) = some (some (.int .u8 0), 1, 1))
    (rlo : Nat) (a : Option Addr) (cap : Nat) (l : List Int) (hl : ∀ x ∈ l, U8 x) (happ : AppL EByte 1 e w rlo a cap l []) (hlo : rlo ≤ w.heap.size) (s : ByteArray) (hbytes : l.length + s.size ≤ 140737488355328) :
    ∃ a' cap' w', (Builtin.append_ #[t, u] ty #[.slice a l.length cap, .string s]).run P w = .ok (.slice a' (l ++ byteL s).length cap') w' ∧ AppL EByte 1 e w' rlo a' cap' (l ++ byteL s) [] ∧ Below rlo w w' ∧
      (∀ f, f < w.heap.size → (∀ k, (Value.slice a l.length cap).ownBlock = some k → f ≠ k) → w'.heap[f]? = w.heap[f]?) ∧ w.heap.size ≤ w'.heap.size := by
  obtain ⟨i, hi', hz0, hz1, hz2⟩ := info_parts hinfo
  obtain ⟨xs, q1, q2, q3⟩ := happ.owns
  have hxs : xs = l.map (Value.int .u8) := by
    rcases happ with ⟨rfl, rfl, rfl, _⟩ | ⟨g, cur, rfl, h1, h3, h4, h5, h6, h7, h8⟩
    · exact List.eq_nil_of_length_eq_zero (by simpa using q2)
    · apply List.ext_getElem?
      intro j
      by_cases hj : j < l.length
      · obtain ⟨F', hv, _⟩ := h7.get j hj
        have := q3 g rfl j (by omega)
        rw [← this]
        have hv2 := hv.2.1
        rw [Nat.mul_one] at hv2
        rw [hv2]; simp [hj]
      · rw [List.getElem?_eq_none (by omega), List.getElem?_eq_none (by simp; omega)]
  subst hxs
  obtain ⟨v', w', hrun, hown, hgr, _⟩ := Lib.run_append_own_string (P := P) w rlo t u ty e i ht hu hi' hz0 hz1 hz2 (.slice a l.length cap) l.length (l.map (Value.int .u8)) q1 s (by unfold maxLen; omega) hbytes hlo
  rw [← byteL_cells, ← List.map_append] at hown
  obtain ⟨a', cap', rfl, happ'⟩ := appL_bytes (fun x hx => by rcases List.mem_append.1 hx with h | h; exact hl x h; exact byteL_u8 s x h) (by rw [List.length_append, byteL_len]) hown
  have hlow : ∀ k, (Value.slice a l.length cap).ownBlock = some k → rlo ≤ k := fun k hk => (by
    rcases happ with ⟨rfl, rfl, rfl, _⟩ | ⟨g, cur, rfl, k1, _⟩
    · simp [Value.ownBlock] at hk
    · simp only [Value.ownBlock, Option.some.injEq] at hk; omega)
  exact ⟨a', cap', w', hrun, happ', ⟨hgr.os, hgr.tape, hgr.output, hgr.size, fun f hf => hgr.block f (by omega) (fun e => by have := hlow f e.symm; omega)⟩, fun f hf hne => hgr.block f hf (fun e => hne f e.symm rfl), hgr.size⟩
end Go.Proofs.YthpmfkkmhbbloaaGreatDoor
namespace Go.Proofs.YthpmfkkmhbbloaaGreatDoor
open Go.ChangeShapes Go.WideShapes Go.ChangeAt Go.RowKit Go.Joins
set_option linter.unusedVariables false
set_option maxRecDepth 100000
theorem lexB_end {x y : List Int} {j : Nat} (h : x.length ≤ j ∨ y.length ≤ j) (hx : j ≤ x.length) (hy : j ≤ y.length) : lexB (x.drop j) (y.drop j) = decide (x.length < y.length) := by
  rcases h with h | h
  · rw [List.drop_of_length_le h]
    cases hd : y.drop j with
    | nil =>
      have := congrArg List.length hd
      rw [List.length_drop, List.length_nil] at this
      rw [decide_eq_false (by omega)]; rfl
    | cons b r =>
      have := congrArg List.length hd
      rw [List.length_drop, List.length_cons] at this
      rw [decide_eq_true (by omega)]; rfl
  · rw [List.drop_of_length_le h, decide_eq_false (by omega)]
    cases x.drop j <;> rfl
theorem lexB_step {x y : List Int} {j : Nat} (hx : j < x.length) (hy : j < y.length) : lexB (x.drop j) (y.drop j) = if x[j] = y[j] then lexB (x.drop (j + 1)) (y.drop (j + 1)) else decide (x[j] < y[j]) := by
  rw [List.drop_eq_getElem_cons hx, List.drop_eq_getElem_cons hy, lexB]
set_option maxHeartbeats 4000000 in
theorem spec_LessBytes (x y : List Int) (a a' : Option Addr) (cap cap' B : Nat) (w : World) (hr : Rd EByte 1 w B a cap x) (hr' : Rd EByte 1 w B a' cap' y) (hB : B ≤ w.heap.size) :
    Calls Tryz.prog 101 #[.slice a x.length cap, .slice a' y.length cap'] w fun e w' => e = .returned (.bool (lexB x y)) ∧ Below w.heap.size w w' := by
  obtain ⟨hl1, hl2⟩ := hr.len
  obtain ⟨hm1, hm2⟩ := hr'.len
  go_enter Tryz.func101, Tryz.ntmps101
  go_wp2_with fail
  go_loopw [5] (fun i wr => ∃ (j : Nat), j ≤ x.length ∧ j ≤ y.length ∧ i = .int .i64 j ∧ Hid (lexB x y = lexB (x.drop j) (y.drop j)) ∧ Below w.heap.size w wr) (fun i _ => x.length - (intOf i).toNat)
  case atStart => exact ⟨0, Nat.zero_le _, Nat.zero_le _, rfl, Lib.hid rfl, Below.refl _ _⟩
  case round =>
    obtain ⟨j, hj, hj', rfl, HL, hb⟩ := hrel
    have hbs := hb.size
    by_cases h1 : j < x.length
    · by_cases h2 : j < y.length
      · obtain ⟨b, o, ha, hbl, d0, u0⟩ := (hr.below EByte.loc hb hB).byte j h1
        obtain ⟨b', o', ha', hbl', d1, u1⟩ := (hr'.below EByte.loc hb hB).byte j h2
        subst ha ha'
        have l1 : b < wr.heap.size := by omega
        have l2 : b' < wr.heap.size := by omega
        by_cases he : x[j] = y[j]
        · have hne : (x[j] != y[j]) = false := by simp [he]
          have HE := Lib.hid (show lexB x y = lexB (x.drop (j + 1)) (y.drop (j + 1)) from by rw [HL.out, lexB_step h1 h2, if_pos he])
          go_wp2_with fail
          go_quiet (fail)
          go_wp2_with fail
          go_roundw
          case rel => exact ⟨j + 1, by omega, by omega, by go_num, HE, hb.trans (below_drewN _ _ _)⟩
          case measure => simp [intOf]; omega
        · have hne : (x[j] != y[j]) = true := by simp [he]
          have HE := Lib.hid (show lexB x y = decide (x[j] < y[j]) from by rw [HL.out, lexB_step h1 h2, if_neg he])
          go_wp2_with fail
          go_quiet (fail)
          go_wp2_with fail
          go_quiet (fail)
          go_wp2_with fail
          go_ret
          exact ⟨ret_b HE.out.symm, (hb.trans (below_drewN _ _ _)).trans (below_drewN _ _ _)⟩
      · have HE := Lib.hid (show lexB x y = decide (x.length < y.length) from by rw [HL.out, lexB_end (Or.inr (by omega)) hj hj'])
        go_wp2_with fail
        go_ret
        exact ⟨ret_b (by rw [HE.out]), hb⟩
    · have HE := Lib.hid (show lexB x y = decide (x.length < y.length) from by rw [HL.out, lexB_end (Or.inl (by omega)) hj hj'])
      go_wp2_with fail
      go_ret
      exact ⟨ret_b (by rw [HE.out]), hb⟩
end Go.Proofs.YthpmfkkmhbbloaaGreatDoor
namespace Go.Proofs.YthpmfkkmhbbloaaGreatDoor
open Go.ChangeShapes Go.WideShapes Go.ChangeAt Go.RowKit Go.Joins
set_option linter.unusedVariables false
set_option maxRecDepth 100000
set_option maxHeartbeats 4000000 in
theorem l13All_of (l : List T) (IH : Hid (∀ t ∈ l, ∀ (a : Option Addr) (cap B : Nat) (w : World), R w B a cap t.l → Wf t → T.sz t ≤ 1048576 → B ≤ w.heap.size →
      Calls Tryz.prog 54 #[.agg (cV t a cap)] w fun e w' => ∃ a' cap', e = .returned (.slice a' (packT t).length cap') ∧ AppL EByte 1 5 w' w.heap.size a' cap' (packT t) [] ∧ Below w.heap.size w w'))
    (len : Nat) (b : List Int) (ar : Option Addr) (cr rlo : Nat) (a : Option Addr) (cap B : Nat) (w : World) (hlen : len = b.length) (happ : AppL EByte 1 5 w rlo ar cr b []) (hrl : rlo ≤ w.heap.size) (hr : R w B a cap l) (hB : B ≤ rlo) (hsz : T.szL l ≤ 1048576) (hbl : b.length ≤ 1073741824) :
    Calls Tryz.prog 89 #[.slice ar len cr, .slice a l.length cap] w fun e w' => ∃ a' cap', e = .returned (.slice a' (b ++ packTs l).length cap') ∧ AppL EByte 1 5 w' rlo a' cap' (b ++ packTs l) [] ∧ Below rlo w w' := by
  subst hlen
  obtain ⟨hl1, hl2⟩ := hr.len
  have HR := Lib.hid hr; clear hr
  have HA := Lib.hid happ; clear happ
  have HZ := Lib.hid hsz
  have hll := T.length_le_szL l
  go_enter Tryz.func89, Tryz.ntmps89
  go_wp2_with fail
  go_loopw [0, 5] (fun q i wr => ∃ (j : Nat) (a' : Option Addr) (c' : Nat), j ≤ l.length ∧ i = .int .i64 j ∧ q = .slice a' (b ++ packTs (l.take j)).length c' ∧ Hid (AppL EByte 1 5 wr rlo a' c' (b ++ packTs (l.take j)) []) ∧ Hid (Below rlo w wr)) (fun _ i _ => l.length - (intOf i).toNat)
  case atStart => exact ⟨0, ar, cr, Nat.zero_le _, rfl, by simp [packTs], by simpa [packTs] using HA, Lib.hid (Below.refl _ _)⟩
  case round =>
    clear HA
    obtain ⟨j, a', c', hj, rfl, rfl, HA, HB⟩ := hrel
    have hbs := HB.out.size
    by_cases hlt : j < l.length
    · obtain ⟨bb, o, a2, cap2, rfl, hbl2, d0, d1, d2, d3, d4, hwf, hq⟩ := (HR.out.below HB.out hB).get j hlt
      have hszj := T.sz_get l j hlt
      have hlb : bb < wr.heap.size := by omega
      have HWF := Lib.hid hwf
      have HQ := Lib.hid hq
      have hlen2 : (packTs (l.take j)).length ≤ 10485760 := by have := packTs_len (l.take j); have := T.szL_take_le l j; omega
      have hlen3 : (packT l[j]).length ≤ 10485769 := by have := packT_len l[j]; omega
      clear hwf hq
      go_wp2_with fail
      refine (IH.out l[j] (List.getElem_mem hlt) a2 cap2 B wr HQ.out HWF.out (by have := HZ.out; omega) (by omega)).mono ?_
      rintro e w2 ⟨a3, c3, rfl, happ3, hb3⟩
      have hs3 := hb3.size
      obtain ⟨a4, c4, w4, hrun, happ4, hb4, _, _, _⟩ := run_appL (P := Tryz.prog) w2 EByte.elem 33 33 (.int .u8 0) 1 Tryz.underlying33 info_Byte2 rfl rlo a' c' (b ++ packTs (l.take j)) [] (HA.out.agree EByte.elem (fun f hf => hb3.block f hf) (by omega)) (by omega) HA.out.cap.1 a3 c3 (packT l[j]) [] ((happ3.rd hs3).srcs EByte.flat) (by simp) (by rw [List.length_append]; unfold maxLen; omega) (by rw [List.length_append]; omega)
      have HA4 := Lib.hid happ4
      have HB4 := Lib.hid ((HB.out.trans (hb3.mono (by omega))).trans hb4)
      have HS := Lib.hid (show b ++ packTs (l.take (j + 1)) = (b ++ packTs (l.take j)) ++ packT l[j] from by rw [packTs_succ l j hlt, List.append_assoc])
      simp only [List.length_append] at hrun
      clear happ3 hb3 happ4 hb4
      go_wp2_with (at_builtin; refine Lib.wpList_append_run _ rfl _ _ _ _ rfl _ _ rfl rfl _ _ hrun ?_)
      go_roundw
      case rel => exact ⟨j + 1, a4, c4, by omega, by go_num, by rw [HS.out, List.length_append, List.length_append], Lib.hid (by rw [HS.out]; exact HA4.out), HB4⟩
      case measure => simp [intOf]; omega
    · have hjj : l.length = j := by omega
      have HJ := Lib.hid (show l.take j = l from by rw [← hjj, List.take_length])
      rw [HJ.out] at HA ⊢
      go_wp2_with fail
      go_ret
      exact ⟨a', c', rfl, HA.out, HB.out⟩
end Go.Proofs.YthpmfkkmhbbloaaGreatDoor
namespace Go.Proofs.YthpmfkkmhbbloaaGreatDoor
open Go.ChangeShapes Go.WideShapes Go.ChangeAt Go.RowKit Go.Joins
set_option linter.unusedVariables false
set_option maxRecDepth 100000
theorem spec_PutHead0 (m n k : Int) (g : Nat) (w : World) (hn : I64 n) :
    Calls Tryz.prog 86 #[.slice (some ⟨g, 0, none⟩) 0 0, .agg (cH m n k)] w fun e w' => ∃ a' cap', e = .returned (.slice a' (headL m n k).length cap') ∧ AppL EByte 1 5 w' w.heap.size a' cap' (headL m n k) [] ∧ Below w.heap.size w w' :=
  spec_PutHead [] m n k (some ⟨g, 0, none⟩) 0 0 w ⟨[], Sl.nil _ _ _ (by simp [maxLen]), by simp⟩ hn (by simp) (Nat.zero_le _)
theorem spec_HeadForOk (m n : Int) (w : World) (hm : 0 ≤ m ∧ m ≤ 7) (hn : 0 ≤ n ∧ n ≤ 1000000000000000) :
    Calls Tryz.prog 87 #[.int .i64 m, .int .i64 n] w fun e w' => (∃ k, e = .returned (.agg (cH m n k)) ∧ hdL m n = headL m n k) ∧ Below w.heap.size w w' := by
  refine (spec_HeadFor m n w ⟨by omega, by omega⟩).mono ?_
  rintro e w' ⟨rfl, hb⟩
  refine ⟨⟨if 23 < n then widthD n else 0, ?_, ?_⟩, hb⟩
  · rw [headForD_ok hm hn]
  · unfold hdL; rw [headForD_ok hm hn]
/-- What PackTight promises of one tree. -/
def PT (t : T) : Prop := ∀ (a : Option Addr) (cap B : Nat) (w : World), R w B a cap t.l → Wf t → T.sz t ≤ 1048576 → B ≤ w.heap.size →
      Calls Tryz.prog 54 #[.agg (cV t a cap)] w fun e w' => ∃ a' cap', e = .returned (.slice a' (packT t).length cap') ∧ AppL EByte 1 5 w' w.heap.size a' cap' (packT t) [] ∧ Below w.heap.size w w'
set_option maxHeartbeats 4000000 in
theorem pt1 (k n x : Int) (s : ByteArray) (l : List T) (hk : k = 1) : PT (.mk k n x s l) := by
  intro a cap B w hr hwf hsz hB
  obtain ⟨hwk, hwn, hwx, hws⟩ := hwf
  simp only [cV, T.k, T.n, T.x, T.s, T.l] at hr hwk hwn hwx hws ⊢
  have HN := Lib.hid hwn
  have HX := Lib.hid hwx
  have q1 := (Is.new w (cV (.mk k n x s l) a cap) 29).alloc (.cells #[] 5)
  have H0 := Lib.hid (below2 w (.cells (cV (.mk k n x s l) a cap) 29) (.cells #[] 5))
  simp only [cV, T.k, T.n, T.x, T.s, T.l] at q1 H0
  have hs0 : w.heap.size + 2 = ((w.alloc (Obj.cells #[Value.int IntKind.i64 k, Value.int IntKind.i64 n, Value.int IntKind.i64 x, Value.string s, Value.slice a l.length cap] 29)).alloc (Obj.cells #[] 5)).heap.size := by simp
  subst hk
  have HE := Lib.hid (show packT (.mk 1 n x s l) = headL 7 22 0 from by rw [packT]; rfl)
  clear hwk hwn hwx hws
  go_enter Tryz.func54, Tryz.ntmps54
  go_wp2_with fail
  refine (spec_PutHead0 7 22 0 _ _ ⟨by omega, by omega⟩).mono ?_
  rintro e w2 ⟨a2, c2, rfl, happ, hb⟩
  have HA := Lib.hid (happ.less (show w.heap.size ≤ _ by omega))
  have HB := Lib.hid (H0.out.trans (hb.mono (by omega)))
  clear happ hb
  go_wp2_with fail
  go_ret
  exact ⟨a2, c2, ret_sl (by rw [HE.out]), by rw [HE.out]; exact HA.out, HB.out⟩
set_option maxHeartbeats 4000000 in
theorem pt2 (k n x : Int) (s : ByteArray) (l : List T) (hk : k = 2) : PT (.mk k n x s l) := by
  intro a cap B w hr hwf hsz hB
  obtain ⟨hwk, hwn, hwx, hws⟩ := hwf
  simp only [cV, T.k, T.n, T.x, T.s, T.l] at hr hwk hwn hwx hws ⊢
  have HN := Lib.hid hwn
  have HX := Lib.hid hwx
  have q1 := (Is.new w (cV (.mk k n x s l) a cap) 29).alloc (.cells #[] 5)
  have H0 := Lib.hid (below2 w (.cells (cV (.mk k n x s l) a cap) 29) (.cells #[] 5))
  simp only [cV, T.k, T.n, T.x, T.s, T.l] at q1 H0
  have hs0 : w.heap.size + 2 = ((w.alloc (Obj.cells #[Value.int IntKind.i64 k, Value.int IntKind.i64 n, Value.int IntKind.i64 x, Value.string s, Value.slice a l.length cap] 29)).alloc (Obj.cells #[] 5)).heap.size := by simp
  subst hk
  clear hwk hwx hws
  by_cases h1 : n = 1
  · subst h1
    have HE := Lib.hid (show packT (.mk 2 1 x s l) = headL 7 21 0 from by rw [packT, if_neg (by omega), if_pos rfl, if_pos rfl])
    go_enter Tryz.func54, Tryz.ntmps54
    go_wp2_with fail
    refine (spec_PutHead0 7 21 0 _ _ ⟨by omega, by omega⟩).mono ?_
    rintro e w2 ⟨a2, c2, rfl, happ, hb⟩
    have HA := Lib.hid (happ.less (show w.heap.size ≤ _ by omega))
    have HB := Lib.hid (H0.out.trans (hb.mono (by omega)))
    clear happ hb
    go_wp2_with fail
    go_ret
    exact ⟨a2, c2, ret_sl (by rw [HE.out]), by rw [HE.out]; exact HA.out, HB.out⟩
  · have HE := Lib.hid (show packT (.mk 2 n x s l) = headL 7 20 0 from by rw [packT, if_neg (by omega), if_pos rfl, if_neg h1])
    go_enter Tryz.func54, Tryz.ntmps54
    go_wp2_with fail
    refine (spec_PutHead0 7 20 0 _ _ ⟨by omega, by omega⟩).mono ?_
    rintro e w2 ⟨a2, c2, rfl, happ, hb⟩
    have HA := Lib.hid (happ.less (show w.heap.size ≤ _ by omega))
    have HB := Lib.hid (H0.out.trans (hb.mono (by omega)))
    clear happ hb
    go_wp2_with fail
    go_ret
    exact ⟨a2, c2, ret_sl (by rw [HE.out]), by rw [HE.out]; exact HA.out, HB.out⟩
set_option maxHeartbeats 4000000 in
theorem pt3 (k n x : Int) (s : ByteArray) (l : List T) (hk : k = 3) : PT (.mk k n x s l) := by
  intro a cap B w hr hwf hsz hB
  obtain ⟨hwk, hwn, hwx, hws⟩ := hwf
  simp only [cV, T.k, T.n, T.x, T.s, T.l] at hr hwk hwn hwx hws ⊢
  have HN := Lib.hid hwn
  have HX := Lib.hid hwx
  have q1 := (Is.new w (cV (.mk k n x s l) a cap) 29).alloc (.cells #[] 5)
  have H0 := Lib.hid (below2 w (.cells (cV (.mk k n x s l) a cap) 29) (.cells #[] 5))
  simp only [cV, T.k, T.n, T.x, T.s, T.l] at q1 H0
  have hs0 : w.heap.size + 2 = ((w.alloc (Obj.cells #[Value.int IntKind.i64 k, Value.int IntKind.i64 n, Value.int IntKind.i64 x, Value.string s, Value.slice a l.length cap] 29)).alloc (Obj.cells #[] 5)).heap.size := by simp
  subst hk
  clear hwk hwx hws
  by_cases h0 : -1000000000000000 ≤ n ∧ n ≤ 1000000000000000
  · have DN := Lib.hid (show decide (-1000000000000000 ≤ n ∧ n ≤ 1000000000000000) = true from decide_eq_true h0)
    obtain ⟨c0, c1, c2', c3, c4⟩ := q1.cells5
    have lg := q1.lt
    obtain ⟨l1, l2⟩ := h0
    by_cases h1 : n < 0
    · have HE := Lib.hid (show packT (.mk 3 n x s l) = hdL 1 (-1 - n) from by rw [packT, if_neg (by omega), if_neg (by omega), if_pos rfl, if_pos ⟨l1, l2⟩, if_pos h1])
      go_enter Tryz.func54, Tryz.ntmps54
      go_wp2_with (go_at_call 63; refine (spec_l1InE _ _ _ _).mono ?_; rintro ee w2 ⟨rfl, rfl⟩; rw [DN.out])
      refine (spec_HeadForOk 1 (-1 - n) _ (by omega) (by omega)).mono ?_
      rintro e w2 ⟨⟨kk, rfl, hkk⟩, hb⟩
      have hs2 := hb.size
      have H2 := Lib.hid (H0.out.trans (hb.mono (by omega)))
      rw [hkk] at HE
      clear hb hkk
      go_wp2_with fail
      refine (spec_PutHead0 1 (-1 - n) kk _ _ ⟨by omega, by omega⟩).mono ?_
      rintro e w3 ⟨a2, c2, rfl, happ, hb⟩
      have HA := Lib.hid (happ.less (show w.heap.size ≤ _ by omega))
      have HB := Lib.hid (H2.out.trans (hb.mono (by omega)))
      clear happ hb
      go_wp2_with fail
      go_ret
      exact ⟨a2, c2, ret_sl (by rw [HE.out]), by rw [HE.out]; exact HA.out, HB.out⟩
    · have HE := Lib.hid (show packT (.mk 3 n x s l) = hdL 0 n from by rw [packT, if_neg (by omega), if_neg (by omega), if_pos rfl, if_pos ⟨l1, l2⟩, if_neg h1])
      go_enter Tryz.func54, Tryz.ntmps54
      go_wp2_with (go_at_call 63; refine (spec_l1InE _ _ _ _).mono ?_; rintro ee w2 ⟨rfl, rfl⟩; rw [DN.out])
      refine (spec_HeadForOk 0 n _ (by omega) (by omega)).mono ?_
      rintro e w2 ⟨⟨kk, rfl, hkk⟩, hb⟩
      have hs2 := hb.size
      have H2 := Lib.hid (H0.out.trans (hb.mono (by omega)))
      rw [hkk] at HE
      clear hb hkk
      go_wp2_with fail
      refine (spec_PutHead0 0 n kk _ _ ⟨by omega, by omega⟩).mono ?_
      rintro e w3 ⟨a2, c2, rfl, happ, hb⟩
      have HA := Lib.hid (happ.less (show w.heap.size ≤ _ by omega))
      have HB := Lib.hid (H2.out.trans (hb.mono (by omega)))
      clear happ hb
      go_wp2_with fail
      go_ret
      exact ⟨a2, c2, ret_sl (by rw [HE.out]), by rw [HE.out]; exact HA.out, HB.out⟩
  · have DN := Lib.hid (show decide (-1000000000000000 ≤ n ∧ n ≤ 1000000000000000) = false from decide_eq_false h0)
    have HE := Lib.hid (show packT (.mk 3 n x s l) = [] from by rw [packT, if_neg (by omega), if_neg (by omega), if_pos rfl, if_neg h0])
    obtain ⟨c0, c1, c2', c3, c4⟩ := q1.cells5
    have lg := q1.lt
    have HA := Lib.hid (AppL.empty (E := EByte) (n := 1) (e := 5) (w.alloc (Obj.cells #[Value.int IntKind.i64 3, Value.int IntKind.i64 n, Value.int IntKind.i64 x, Value.string s, Value.slice a l.length cap] 29)) w.heap.size (by simp))
    clear h0
    go_enter Tryz.func54, Tryz.ntmps54
    go_wp2_with (go_at_call 63; refine (spec_l1InE _ _ _ _).mono ?_; rintro ee w2 ⟨rfl, rfl⟩; rw [DN.out])
    go_ret
    exact ⟨_, 0, ret_sl (by rw [HE.out]; rfl), by rw [HE.out]; have h := HA.out; rw [size_alloc] at h; exact h, H0.out⟩
set_option maxHeartbeats 4000000 in
theorem pt4 (k n x : Int) (s : ByteArray) (l : List T) (hk : k = 4) : PT (.mk k n x s l) := by
  intro a cap B w hr hwf hsz hB
  obtain ⟨hwk, hwn, hwx, hws⟩ := hwf
  simp only [cV, T.k, T.n, T.x, T.s, T.l] at hr hwk hwn hwx hws ⊢
  have HN := Lib.hid hwn
  have HX := Lib.hid hwx
  have q1 := (Is.new w (cV (.mk k n x s l) a cap) 29).alloc (.cells #[] 5)
  have H0 := Lib.hid (below2 w (.cells (cV (.mk k n x s l) a cap) 29) (.cells #[] 5))
  simp only [cV, T.k, T.n, T.x, T.s, T.l] at q1 H0
  have hs0 : w.heap.size + 2 = ((w.alloc (Obj.cells #[Value.int IntKind.i64 k, Value.int IntKind.i64 n, Value.int IntKind.i64 x, Value.string s, Value.slice a l.length cap] 29)).alloc (Obj.cells #[] 5)).heap.size := by simp
  subst hk
  have HE := Lib.hid (show packT (.mk 4 n x s l) = headL 7 (fltBitsD n x) 4 from by rw [packT, if_neg (by omega), if_neg (by omega), if_neg (by omega), if_pos rfl])
  have hfb := fltBitsD_in n x
  obtain ⟨c0, c1, c2', c3, c4⟩ := q1.cells5
  have lg := q1.lt
  clear hwk hws
  go_enter Tryz.func54, Tryz.ntmps54
  go_wp2_with fail
  refine (spec_FltBits n x _ HN.out HX.out).mono ?_
  rintro e w2 ⟨rfl, hb⟩
  have hs2 := hb.size
  have H2 := Lib.hid (H0.out.trans (hb.mono (by omega)))
  clear hb
  go_wp2_with fail
  refine (spec_PutHead0 7 (fltBitsD n x) 4 _ _ ⟨by omega, by omega⟩).mono ?_
  rintro e w3 ⟨a2, c2, rfl, happ, hb⟩
  have HA := Lib.hid (happ.less (show w.heap.size ≤ _ by omega))
  have HB := Lib.hid (H2.out.trans (hb.mono (by omega)))
  clear happ hb
  go_wp2_with fail
  go_ret
  exact ⟨a2, c2, ret_sl (by rw [HE.out]), by rw [HE.out]; exact HA.out, HB.out⟩
set_option maxHeartbeats 4000000 in
theorem pt5 (k n x : Int) (s : ByteArray) (l : List T) (hk : k = 5) : PT (.mk k n x s l) := by
  intro a cap B w hr hwf hsz hB
  obtain ⟨hwk, hwn, hwx, hws⟩ := hwf
  simp only [cV, T.k, T.n, T.x, T.s, T.l] at hr hwk hwn hwx hws ⊢
  have HN := Lib.hid hwn
  have HX := Lib.hid hwx
  have q1 := (Is.new w (cV (.mk k n x s l) a cap) 29).alloc (.cells #[] 5)
  have H0 := Lib.hid (below2 w (.cells (cV (.mk k n x s l) a cap) 29) (.cells #[] 5))
  simp only [cV, T.k, T.n, T.x, T.s, T.l] at q1 H0
  have hs0 : w.heap.size + 2 = ((w.alloc (Obj.cells #[Value.int IntKind.i64 k, Value.int IntKind.i64 n, Value.int IntKind.i64 x, Value.string s, Value.slice a l.length cap] 29)).alloc (Obj.cells #[] 5)).heap.size := by simp
  subst hk
  clear hwk hwx hws
  obtain ⟨c0, c1, c2', c3, c4⟩ := q1.cells5
  have lg := q1.lt
  by_cases h0 : 0 ≤ n ∧ n ≤ 2
  · have DN := Lib.hid (show decide (0 ≤ n ∧ n ≤ 2) = true from decide_eq_true h0)
    obtain ⟨l1, l2⟩ := h0
    have HE := Lib.hid (show packT (.mk 5 n x s l) = headL 7 (32 + n) 1 from by rw [packT, if_neg (by omega), if_neg (by omega), if_neg (by omega), if_neg (by omega), if_pos rfl, if_pos ⟨l1, l2⟩])
    go_enter Tryz.func54, Tryz.ntmps54
    go_wp2_with (go_at_call 63; refine (spec_l1InE _ _ _ _).mono ?_; rintro ee w2 ⟨rfl, rfl⟩; rw [DN.out])
    refine (spec_PutHead0 7 (32 + n) 1 _ _ ⟨by omega, by omega⟩).mono ?_
    rintro e w2 ⟨a2, c2, rfl, happ, hb⟩
    have HA := Lib.hid (happ.less (show w.heap.size ≤ _ by omega))
    have HB := Lib.hid (H0.out.trans (hb.mono (by omega)))
    clear happ hb
    go_wp2_with fail
    go_ret
    exact ⟨a2, c2, ret_sl (by rw [HE.out]), by rw [HE.out]; exact HA.out, HB.out⟩
  · have DN := Lib.hid (show decide (0 ≤ n ∧ n ≤ 2) = false from decide_eq_false h0)
    have HE := Lib.hid (show packT (.mk 5 n x s l) = [] from by rw [packT, if_neg (by omega), if_neg (by omega), if_neg (by omega), if_neg (by omega), if_pos rfl, if_neg h0])
    have HA := Lib.hid (AppL.empty (E := EByte) (n := 1) (e := 5) (w.alloc (Obj.cells #[Value.int IntKind.i64 5, Value.int IntKind.i64 n, Value.int IntKind.i64 x, Value.string s, Value.slice a l.length cap] 29)) w.heap.size (by simp))
    clear h0
    go_enter Tryz.func54, Tryz.ntmps54
    go_wp2_with (go_at_call 63; refine (spec_l1InE _ _ _ _).mono ?_; rintro ee w2 ⟨rfl, rfl⟩; rw [DN.out])
    go_ret
    exact ⟨_, 0, ret_sl (by rw [HE.out]; rfl), by rw [HE.out]; have h := HA.out; rw [size_alloc] at h; exact h, H0.out⟩
set_option maxHeartbeats 4000000 in
theorem pt0 (k n x : Int) (s : ByteArray) (l : List T) (hk : ¬ (k = 1 ∨ k = 2 ∨ k = 3 ∨ k = 4 ∨ k = 5 ∨ k = 7 ∨ k = 8 ∨ k = 9 ∨ k = 10 ∨ k = 11)) : PT (.mk k n x s l) := by
  intro a cap B w hr hwf hsz hB
  obtain ⟨hwk, hwn, hwx, hws⟩ := hwf
  simp only [cV, T.k, T.n, T.x, T.s, T.l] at hr hwk hwn hwx hws ⊢
  have HN := Lib.hid hwn
  have HX := Lib.hid hwx
  have q1 := (Is.new w (cV (.mk k n x s l) a cap) 29).alloc (.cells #[] 5)
  have H0 := Lib.hid (below2 w (.cells (cV (.mk k n x s l) a cap) 29) (.cells #[] 5))
  simp only [cV, T.k, T.n, T.x, T.s, T.l] at q1 H0
  have hs0 : w.heap.size + 2 = ((w.alloc (Obj.cells #[Value.int IntKind.i64 k, Value.int IntKind.i64 n, Value.int IntKind.i64 x, Value.string s, Value.slice a l.length cap] 29)).alloc (Obj.cells #[] 5)).heap.size := by simp
  have HE := Lib.hid (show packT (.mk k n x s l) = [] from by rw [packT, if_neg (by omega), if_neg (by omega), if_neg (by omega), if_neg (by omega), if_neg (by omega), if_neg (by omega), if_neg (by omega), if_neg (by omega), if_neg (by omega), if_neg (by omega)])
  have HA := Lib.hid (AppL.empty (E := EByte) (n := 1) (e := 5) (w.alloc (Obj.cells #[Value.int IntKind.i64 k, Value.int IntKind.i64 n, Value.int IntKind.i64 x, Value.string s, Value.slice a l.length cap] 29)) w.heap.size (by simp))
  have g1 : ¬ k = 1 := by omega
  have g2 : ¬ k = 2 := by omega
  have g3 : ¬ k = 3 := by omega
  have g4 : ¬ k = 4 := by omega
  have g5 : ¬ k = 5 := by omega
  have g7 : ¬ k = 7 := by omega
  have g8 : ¬ k = 8 := by omega
  have g9 : ¬ k = 9 := by omega
  have g10 : ¬ k = 10 := by omega
  have g11 : ¬ k = 11 := by omega
  obtain ⟨c0, c1, c2', c3, c4⟩ := q1.cells5
  have lg := q1.lt
  clear hk
  go_enter Tryz.func54, Tryz.ntmps54
  go_wp2_with fail
  go_ret
  exact ⟨_, 0, ret_sl (by rw [HE.out]; rfl), by rw [HE.out]; have h := HA.out; rw [size_alloc] at h; exact h, H0.out⟩
end Go.Proofs.YthpmfkkmhbbloaaGreatDoor
