/- Texts of this proof, merged: NamesT2, FitsP, AppS, BigP, TightP, AppG, KeepX. No condition beyond what each theorem states. -/
import Derived.Test.YtpifadjlbjifhaaGreatDoorRows
import Derived.WalkKit
import Derived.ProofKit
import Derived.OpenShut
import Derived.Handy
import Derived.Lib.Hide
import Derived.Lib.SmallJoins
import Derived.Deep.RegionHeld3
import Derived.Deep.AppendLies
import Derived.Deep.RegionLaw
import Derived.Deep.QuietTactic
import Derived.BigQuiet
import Derived.Test.YtpifadjlbjifhaaGreatDoorZF1
import Derived.Test.YtpifadjlbjifhaaGreatDoorZF2
import Derived.Test.YtpifadjlbjifhaaGreatDoorZF3
import Derived.Test.YtpifadjlbjifhaaGreatDoorZF4
import Derived.Test.YtpifadjlbjifhaaGreatDoorZF7
import Derived.Test.YtpifadjlbjifhaaGreatDoorShelf
import Derived.Test.YtpifadjlbjifhaaGreatDoorZF5
import Derived.Test.YtpifadjlbjifhaaGreatDoorZF6
import Derived.Laws.BytesArg
import Derived.Lib.AppendStr
import Derived.Lib.ValidAsc
import Derived.Deep.AppendSrc
import Derived.Deep.Upon
import Derived.Lib.AppendZeros
set_option linter.unusedSimpArgs false
set_option linter.unnecessarySimpa false
namespace Go.Proofs.YtpifadjlbjifhaaGreatDoor
open Go.ChangeShapes Go.WideShapes Go.ChangeAt Go.RowKit Go.Joins
set_option linter.unusedVariables false
set_option maxRecDepth 100000
set_option maxHeartbeats 1000000 in
theorem impl_OnceEach (t : T) (a : Option Addr) (cap B : Nat) (w : World) (hr : R w B a cap t.l) (hB : B ≤ w.heap.size) (hlc : t.l.length ≤ 1073741824) :
    Calls Tryz.prog 138 #[.agg (cV t a cap)] w fun e w' => e = .returned (.bool (onceB t)) ∧ Below w.heap.size w w' := by
  have hmf : ∀ (fn : Fn) (first cap : Array Value) (w : World), (Instr.makeFunc fn first cap).run Tryz.prog w = .ok (.func fn first cap) w := fun _ _ _ _ => rfl
  obtain ⟨ns, hns⟩ : ∃ ns, namesT t = ns := ⟨_, rfl⟩
  have HNS := Lib.hid hns; clear hns
  have HR := Lib.hid hr; clear hr
  go_enter Tryz.func138, Tryz.ntmps138
  go_wp2_with fail
  refine (impl_names t a cap B _ (HR.out.below (below1 _ _) hB) (by simp; omega) hlc).mono ?_
  rintro e w1 ⟨a1, c1, rfl, hr1, hb1⟩
  rw [HNS.out] at hr1 ⊢
  have HB1 := Lib.hid (below_step (below1 w _) hb1 (by simp)); clear hb1
  have hs1 := HB1.out.size
  obtain ⟨hn1, hn2⟩ := hr1.len
  have HR1 := Lib.hid hr1; clear hr1
  have HOB := Lib.hid (show onceB t = onceN ns ns.length from by unfold onceB; rw [HNS.out])
  go_wp2_with fail
  go_loopw [10, 4, 5] (fun iv _ _ wr => ∃ (j : Nat), j ≤ ns.length ∧ iv = .int .i64 j ∧ Hid (onceN ns j = true) ∧ Below w1.heap.size w1 wr) (fun iv _ _ _ => ns.length - (intOf iv).toNat)
  case atStart => exact ⟨0, Nat.zero_le _, rfl, rfl, Below.refl _ _⟩
  case round =>
    obtain ⟨j, hj, rfl, HJ, hb⟩ := hrel
    have hbs := hb.size
    by_cases hlt : j < ns.length
    · obtain ⟨b, o, a2, cap2, rfl, hbl, d0, d1, d2, d3, d4, hwf, hq⟩ := (HR1.out.below hb (Nat.le_refl _)).get j hlt
      have hlb : b < wr.heap.size := by omega
      have H5 := Lib.hid (below1 wr (.cells (cV ns[j] a2 cap2) 36))
      have q5 := Is.new wr (cV ns[j] a2 cap2) 36
      have HQ := Lib.hid hq; clear hq
      have HTk := Lib.hid ((HR1.out.below hb (Nat.le_refl _)).take j)
      have htl : (ns.take j).length = j := by rw [List.length_take]; omega
      have HS := Lib.hid (onceN_succ ns j hlt)
      have hjc : j ≤ c1 := by omega
      go_wp2_with fail
      have hs5 : (wr.alloc (.cells (cV ns[j] a2 cap2) 36)).heap.size = wr.heap.size + 1 := by simp
      generalize wr.alloc (.cells (cV ns[j] a2 cap2) 36) = W5 at *
      have H1 : ∀ u ∈ ns.take j, ∀ (a : Option Addr) (cap : Nat) (w' : World), Below W5.heap.size W5 w' → R w' w1.heap.size a cap u.l → Wf u → Calls Tryz.prog 171 #[.agg (cV u a cap), .pointer (some ⟨wr.heap.size, 0, none⟩)] w' fun e v => e = .returned (.bool (sameT u ns[j])) ∧ Below w'.heap.size w' v := by
        intro u hu a3 cap3 w' hb3 hr3 hwf3
        have hs3 := hb3.size
        have t2 := q5.below hb3 (by omega)
        obtain ⟨c0, c1', c2, c3, c4⟩ := t2.cells5
        have l2 : wr.heap.size < w'.heap.size := by omega
        have HQ3 := Lib.hid (HQ.out.below (H5.out.trans (hb3.mono (by omega))) (by omega))
        have HR3 := Lib.hid hr3; clear hr3 hwf3 hu hb3 d0 d1 d2 d3 d4 q5
        go_enter Tryz.func171, Tryz.ntmps171
        go_wp2_with fail
        refine (impl_SameVal u ns[j] a3 a2 cap3 cap2 w1.heap.size _ (HR3.out.below (below1 _ _) (by omega)) (HQ3.out.below (below1 _ _) (by omega)) (by simp; omega)).mono ?_
        rintro e w5 ⟨rfl, hb5⟩
        go_wp2_with fail
        go_ret
        exact ⟨rfl, below_step (below1 _ _) hb5 (by simp)⟩
      have cC := has_OnceEach_1 (fun u => sameT u ns[j]) wr.heap.size (ns.take j) (some ⟨b, o, none⟩) c1 w1.heap.size W5 (HTk.out.below H5.out (by omega)) (by omega) H1
      rw [htl] at cC
      have CC := Lib.hid cC; clear cC H1
      cases hv : (ns.take j).any fun u => sameT u ns[j] with
      | true =>
        have HD := Lib.hid (show onceB t = false from HOB.out.trans (onceN_false ns (j + 1) _ (by omega) (by rw [HS.out, hv, HJ.out]; rfl)))
        rw [hv] at CC
        clear hv
        first | (refine CC.out.mono ?_) | (go_wp2_with fail; refine CC.out.mono ?_)
        rintro e w6 ⟨rfl, hb6⟩
        go_wp2_with fail
        go_ret
        exact ⟨ret_b (by rw [HD.out]), (HB1.out.trans (hb.mono (by omega))).trans ((H5.out.trans (hb6.mono (by omega))).mono (by omega))⟩
      | false =>
        have HD := Lib.hid (show onceN ns (j + 1) = true from by rw [HS.out, hv, HJ.out]; rfl)
        rw [hv] at CC
        clear hv
        first | (refine CC.out.mono ?_) | (go_wp2_with fail; refine CC.out.mono ?_)
        rintro e w6 ⟨rfl, hb6⟩
        go_wp2_with fail
        go_roundw
        case rel => exact ⟨j + 1, by omega, by go_num, HD.out, hb.trans ((H5.out.trans (hb6.mono (by omega))).mono hbs)⟩
        case measure => simp [intOf]; omega
    · have hjj : ns.length = j := by omega
      have HD := Lib.hid (show onceB t = true from by rw [HOB.out, hjj]; exact HJ.out); clear hjj
      go_wp2_with fail
      go_ret
      exact ⟨ret_b (by rw [HD.out]), HB1.out.trans (hb.mono (by omega))⟩
end Go.Proofs.YtpifadjlbjifhaaGreatDoor
namespace Go.Proofs.YtpifadjlbjifhaaGreatDoor
open Go.ChangeShapes Go.WideShapes Go.ChangeAt Go.RowKit Go.Joins
set_option linter.unusedVariables false
set_option maxRecDepth 100000
set_option maxHeartbeats 1000000 in
theorem impl_textNames (t : T) (a : Option Addr) (cap B : Nat) (w : World) (hr : R w B a cap t.l) (hB : B ≤ w.heap.size) (hlc : t.l.length ≤ 1073741824) :
    Calls Tryz.prog 133 #[.agg (cV t a cap)] w fun e w' => e = .returned (.bool (textNm t)) ∧ Below w.heap.size w w' := by
  have HR := Lib.hid hr; clear hr
  have H0 := Lib.hid (below1 w (.cells (cV t a cap) 36))
  have q0 := Is.new w (cV t a cap) 36
  go_enter Tryz.func133, Tryz.ntmps133
  go_wp2_with fail
  refine (impl_OnceEach t a cap B _ (HR.out.below H0.out hB) (by simp; omega) hlc).mono ?_
  rintro e w1 ⟨rfl, hb1⟩
  have HB1 := Lib.hid (below_step H0.out hb1 (by simp))
  have p1 := q0.below hb1 (by simp)
  obtain ⟨r0, r1, r2, r3, r4⟩ := p1.cells5
  have l1 : w.heap.size < w1.heap.size := by have := hb1.size; simp at this; omega
  clear hb1
  cases hv : onceB t with
  | false =>
    have HD := Lib.hid (show textNm t = false from by unfold textNm; rw [hv]; rfl); clear hv
    go_wp2_with fail
    go_ret
    exact ⟨ret_b (by rw [HD.out]), HB1.out⟩
  | true =>
    have HD := Lib.hid (show textNm t = !((namesT t).any fun x => !decide (x.k = 7)) from by unfold textNm; rw [hv, Bool.true_and]; exact (any_not_all _ _).symm); clear hv
    go_wp2_with fail
    refine (impl_names t a cap B _ (HR.out.below HB1.out hB) (by omega) hlc).mono ?_
    rintro e w2 ⟨a2, c2, rfl, hr2, hb2⟩
    have H1 : ∀ u ∈ namesT t, ∀ (a : Option Addr) (cap : Nat) (w' : World), Below w2.heap.size w2 w' → R w' w2.heap.size a cap u.l → Wf u → Calls Tryz.prog 168 #[.agg (cV u a cap)] w' fun e v => e = .returned (.bool (!decide (u.k = 7))) ∧ Below w'.heap.size w' v := by
      intro u hu a3 cap3 w' hb3 hr3 hwf3
      clear hr3 hwf3 hu hb3 r0 r1 r2 r3 r4
      by_cases h7 : u.k = 7
      · have h7' : (u.k != 7) = false := by simp [h7]
        rw [decide_eq_true h7]; clear h7
        go_enter Tryz.func168, Tryz.ntmps168
        go_wp2_with fail
        go_ret
        exact ⟨ret_b (by first | rfl | exact h7'), below1 _ _⟩
      · have h7' : (u.k != 7) = true := by simp [h7]
        rw [decide_eq_false h7]; clear h7
        go_enter Tryz.func168, Tryz.ntmps168
        go_wp2_with fail
        go_ret
        exact ⟨ret_b (by first | rfl | exact h7'), below1 _ _⟩
    have cC := has_textNames_1 (fun x => !decide (x.k = 7)) (namesT t) a2 c2 w2.heap.size w2 hr2 (Nat.le_refl _) H1
    have CC := Lib.hid cC; clear cC H1 hr2
    generalize ((namesT t).any fun x => !decide (x.k = 7)) = r at *
    go_wp2_with fail
    refine CC.out.mono ?_
    rintro e w3 ⟨rfl, hb3⟩
    go_wp2_with fail
    go_ret
    exact ⟨ret_b (by rw [HD.out]), HB1.out.trans ((hb2.trans (hb3.mono hb2.size)).mono (by omega))⟩
/-- Can a right value stand in plain text? -/
def fitB (t : T) : Bool := decide (t.k = 1 ∨ t.k = 2 ∨ t.k = 4 ∨ t.k = 7 ∨ t.k = 9) || (decide (t.k = 10) && textNm t)
theorem fitB_yes {t : T} (h : t.k = 1 ∨ t.k = 2 ∨ t.k = 4 ∨ t.k = 7 ∨ t.k = 9) : fitB t = true := by unfold fitB; rw [decide_eq_true h]; rfl
theorem fitB_map {t : T} (h : t.k = 10) : fitB t = textNm t := by unfold fitB; rw [decide_eq_true h, decide_eq_false (by omega)]; rfl
theorem fitB_no {t : T} (h : ¬ (t.k = 1 ∨ t.k = 2 ∨ t.k = 4 ∨ t.k = 7 ∨ t.k = 9)) (h2 : t.k ≠ 10) : fitB t = false := by unfold fitB; rw [decide_eq_false h, decide_eq_false h2]; rfl
set_option maxHeartbeats 1000000 in
theorem impl_fit (t : T) (a : Option Addr) (cap B : Nat) (w : World) (hr : R w B a cap t.l) (hwf : Wf t) (hsz : T.sz t ≤ 1048576) (he : Env B w) (hB : B ≤ w.heap.size) :
    Calls Tryz.prog 141 #[.agg (cV t a cap)] w fun e w' => e = .returned (.bool (fitB t)) ∧ Below w.heap.size w w' := by
  have hlc : t.l.length ≤ 1073741824 := by have := T.length_le_szL t.l; have := sz_list t; omega
  have HR := Lib.hid hr; clear hr
  obtain ⟨hk0, hk1⟩ := hwf.1
  have HT := Lib.hid (fun W (h : R W B a cap t.l) (hb : B ≤ W.heap.size) => impl_textNames t a cap B W h hb hlc)
  clear hwf he
  by_cases h : t.k = 1 ∨ t.k = 2 ∨ t.k = 4 ∨ t.k = 7 ∨ t.k = 9
  · have HD := Lib.hid (fitB_yes h)
    obtain ⟨k, n, x, s, l⟩ := t
    simp only [T.k, T.n, T.x, T.s, T.l, cV] at *
    obtain rfl | rfl | rfl | rfl | rfl := h
    all_goals
      go_enter Tryz.func141, Tryz.ntmps141
      go_wp2_with fail
      go_ret
      exact ⟨ret_b (by rw [HD.out]), below1 _ _⟩
  · by_cases h2 : t.k = 10
    · have HD := Lib.hid (fitB_map h2)
      obtain ⟨k, n, x, s, l⟩ := t
      simp only [T.k, T.n, T.x, T.s, T.l, cV] at *
      subst h2
      go_enter Tryz.func141, Tryz.ntmps141
      go_wp2_with fail
      refine (HT.out _ (HR.out.below (below1 _ _) hB) (by simp; omega)).mono ?_
      rintro e w2 ⟨rfl, hb2⟩
      go_wp2_with fail
      go_ret
      exact ⟨ret_b (by rw [HD.out]), below_step (below1 _ _) hb2 (by simp)⟩
    · have HD := Lib.hid (fitB_no h h2)
      obtain ⟨k, n, x, s, l⟩ := t
      simp only [T.k, T.n, T.x, T.s, T.l, cV] at *
      have e1 : ¬ k = 1 := by omega
      have e2 : ¬ k = 2 := by omega
      have e4 : ¬ k = 4 := by omega
      have e7 : ¬ k = 7 := by omega
      have e9 : ¬ k = 9 := by omega
      go_enter Tryz.func141, Tryz.ntmps141
      go_wp2_with fail
      all_goals
        go_ret
        exact ⟨ret_b (by rw [HD.out]; first | done | simp [h2]), below1 _ _⟩
set_option maxHeartbeats 2000000 in
theorem every_fit (hp : ∀ t : T, ∀ (a : Option Addr) (cap B : Nat) (w : World), R w B a cap t.l → Wf t → T.sz t ≤ 1048576 → Env B w → B ≤ w.heap.size → Calls Tryz.prog 141 #[.agg (cV t a cap)] w fun e v => e = .returned (.bool (fitB t)) ∧ Below w.heap.size w v) :
    ∀ t : T, ∀ (a : Option Addr) (cap B : Nat) (w : World), R w B a cap t.l → Wf t → T.sz t ≤ 1048576 → Env B w → B ≤ w.heap.size →
    Calls Tryz.prog 92 #[.agg (cV t a cap), .func (.func 141) #[] #[]] w fun e w' => e = .returned (.bool (allB fitB t)) ∧ Below w.heap.size w w' := by
  have HP := Lib.hid hp; clear hp
  intro t
  induction t using T.ind with
  | h k n x s l ih =>
    intro a cap B w hr hwf hsz henv hB
    have IH := Lib.hid ih; clear ih
    have HPT := Lib.hid (fun W h1 h2 h3 h4 => HP.out (.mk k n x s l) a cap B W h1 hwf hsz h3 h4 : ∀ W, R W B a cap l → True → Env B W → B ≤ W.heap.size → _)
    have HALL := Lib.hid (allB_eq fitB (.mk k n x s l))
    simp only [cV, T.k, T.n, T.x, T.s, T.l] at hr HPT ⊢
    rw [sz_of] at hsz
    obtain ⟨hlc, hcap⟩ := hr.len
    have HR := Lib.hid hr; clear hr
    have HE := Lib.hid henv; clear henv hwf
    have hmf : ∀ (fn : Fn) (first cap : Array Value) (w : World), (Instr.makeFunc fn first cap).run Tryz.prog w = .ok (.func fn first cap) w := fun _ _ _ _ => rfl
    go_enter Tryz.func92, Tryz.ntmps92
    go_wp2_with fail
    generalize hW : (w.alloc (Obj.cells #[Value.int IntKind.i64 k, Value.int IntKind.i64 n, Value.int IntKind.i64 x, Value.string s, Value.slice a l.length cap] 36)).alloc (Obj.cells #[.func (.func 141) #[] #[]] 64) = W0
    have q1 : Is W0 w.heap.size 36 #[Value.int IntKind.i64 k, Value.int IntKind.i64 n, Value.int IntKind.i64 x, Value.string s, Value.slice a l.length cap] := by subst hW; exact (Is.new _ _ _).alloc _
    have q2 : Is W0 (w.heap.size + 1) 64 #[.func (.func 141) #[] #[]] := by subst hW; exact Is.new2 _ _ _ _
    have H0 := Lib.hid (show Below w.heap.size w W0 from by subst hW; exact below2 _ _ _)
    have hs0 : W0.heap.size = w.heap.size + 2 := by subst hW; simp
    clear hW
    refine (HPT.out W0 (HR.out.below H0.out hB) trivial (HE.out.step (H0.out.mono hB)) (by omega)).mono ?_
    rintro e w2 ⟨rfl, hb2⟩
    have hs2 := hb2.size
    have p1 := q1.below hb2 (by omega)
    have p2 := q2.below hb2 (by omega)
    obtain ⟨r0, r1, r2, r3, r4⟩ := p1.cells5
    have l1 : w.heap.size < w2.heap.size := by omega
    have HB2 := Lib.hid (H0.out.trans (hb2.mono (by omega)))
    clear HPT
    cases hv : fitB (.mk k n x s l) with
    | false =>
      have HD := Lib.hid (show allB fitB (.mk k n x s l) = false from by rw [HALL.out, hv]; rfl)
      clear hv HALL
      go_wp2_with fail
      go_ret
      exact ⟨ret_b (by rw [HD.out]), HB2.out⟩
    | true =>
      have HD := Lib.hid (show allB fitB (.mk k n x s l) = !(l.any fun x => !allB fitB x) from by rw [HALL.out, hv]; simp only [T.l, Bool.true_and]; exact (any_not_all _ _).symm)
      clear hv HALL
      have H1 : ∀ t ∈ l, ∀ (a : Option Addr) (cap : Nat) (w' : World), Below w2.heap.size w2 w' → R w' B a cap t.l → Wf t → Calls Tryz.prog 129 #[.agg (cV t a cap), .pointer (some ⟨w.heap.size + 1, 0, none⟩)] w' fun e v => e = .returned (.bool (!allB fitB t)) ∧ Below w'.heap.size w' v := by
        intro t ht a3 cap3 w' hb3 hr3 hwf3
        obtain ⟨i, hi, rfl⟩ := List.mem_iff_getElem.1 ht
        have hszi := T.sz_get l i hi
        have hs3 := hb3.size
        have t2 := p2.below hb3 (by omega)
        have c0 := t2.cell 0 rfl
        simp only [List.getElem_toArray, List.getElem_cons_zero] at c0
        have l2 : w.heap.size + 1 < w'.heap.size := by omega
        have HWF := Lib.hid hwf3; clear hwf3
        have HR3 := Lib.hid hr3; clear hr3
        have HB3 := Lib.hid (HB2.out.trans (hb3.mono (by omega)))
        clear hb3 p1 q1 q2 r0 r1 r2 r3 r4 ht
        go_enter Tryz.func129, Tryz.ntmps129
        go_wp2_with fail
        refine (IH.out l[i] (List.getElem_mem hi) a3 cap3 B _ (HR3.out.below (below1 _ _) (by omega)) HWF.out (by omega) (HE.out.step ((HB3.out.mono hB).trans ((below1 _ _).mono (by omega)))) (by simp; omega)).mono ?_
        rintro e w5 ⟨rfl, hb5⟩
        go_wp2_with fail
        go_ret
        exact ⟨rfl, below_step (below1 _ _) hb5 (by simp)⟩
      have cC := has_every_1 (fun x => !allB fitB x) (w.heap.size + 1) l a cap B w2 (HR.out.below HB2.out hB) (by omega) H1
      have CC := Lib.hid cC; clear cC H1
      generalize (l.any fun x => !allB fitB x) = r at *
      go_wp2_with fail
      refine CC.out.mono ?_
      rintro e w6 ⟨rfl, hb6⟩
      go_wp2_with fail
      go_ret
      exact ⟨ret_b (by rw [HD.out]), HB2.out.trans (hb6.mono (by omega))⟩
set_option maxHeartbeats 1000000 in
theorem impl_FitsPlain (t : T) (a : Option Addr) (cap B : Nat) (w : World) (hr : R w B a cap t.l) (hwf : Wf t) (hsz : T.sz t ≤ 1048576) (he : Env B w) (hB : B ≤ w.heap.size) :
    Calls Tryz.prog 97 #[.agg (cV t a cap)] w fun e w' => e = .returned (.bool (allB ownB t && allB fitB t)) ∧ Below w.heap.size w w' := by
  have HR := Lib.hid hr; clear hr
  have HE := Lib.hid he; clear he
  have HWF := Lib.hid hwf; clear hwf
  have H0 := Lib.hid (below1 w (.cells (cV t a cap) 36))
  have q0 := Is.new w (cV t a cap) 36
  go_enter Tryz.func97, Tryz.ntmps97
  go_wp2_with fail
  refine (impl_ValOk t a cap B _ (HR.out.below H0.out hB) HWF.out hsz (HE.out.step (H0.out.mono hB)) (by simp; omega)).mono ?_
  rintro e w1 ⟨rfl, hb1⟩
  have HB1 := Lib.hid (below_step H0.out hb1 (by simp))
  have p1 := q0.below hb1 (by simp)
  obtain ⟨r0, r1, r2, r3, r4⟩ := p1.cells5
  have l1 : w.heap.size < w1.heap.size := by have := hb1.size; simp at this; omega
  clear hb1
  cases hv : allB ownB t with
  | false =>
    have HV := Lib.hid hv; clear hv
    go_wp2_with fail
    go_ret
    exact ⟨ret_b (by rw [HV.out]; rfl), HB1.out⟩
  | true =>
    have HV := Lib.hid hv; clear hv
    have HC := Lib.hid (every_fit (fun t a cap B w h1 h2 h3 h4 h5 => impl_fit t a cap B w h1 h2 h3 h4 h5) t a cap B w1 (HR.out.below HB1.out hB) HWF.out hsz (HE.out.step (HB1.out.mono hB)) (by omega))
    go_wp2_with fail
    refine HC.out.mono ?_
    rintro e w2 ⟨rfl, hb2⟩
    go_wp2_with fail
    go_ret
    exact ⟨ret_b (by rw [HV.out]; rfl), HB1.out.trans (hb2.mono HB1.out.size)⟩
end Go.Proofs.YtpifadjlbjifhaaGreatDoor
namespace Go.Proofs.YtpifadjlbjifhaaGreatDoor
open Go.ChangeShapes Go.WideShapes Go.ChangeAt Go.RowKit Go.Joins
set_option linter.unusedVariables false
set_option maxRecDepth 100000
/-- A text's bytes, as numbers. -/
def byteL (s : ByteArray) : List Int := s.data.toList.map fun b => (b.toNat : Int)
theorem byteL_len (s : ByteArray) : (byteL s).length = s.size := by unfold byteL; rw [List.length_map, ← Lib.size_eq]
theorem byteL_append (a b : ByteArray) : byteL (a ++ b) = byteL a ++ byteL b := by unfold byteL; simp [ByteArray.data_append]
theorem byteL_str (s : ByteArray) : strOfNums (byteL s) = s := by
  unfold strOfNums byteL
  apply ByteArray.ext; apply Array.ext'
  simp only [List.map_map]
  exact (List.map_congr_left (fun b _ => by simp)).trans (List.map_id _)
theorem byteL_u8 (s : ByteArray) : ∀ x ∈ byteL s, U8 x := by
  intro x hx
  obtain ⟨b, _, rfl⟩ := List.mem_map.1 hx
  have := b.toNat_lt
  exact ⟨by omega, by omega⟩
theorem byteL_cells (s : ByteArray) : (byteL s).map (Value.int .u8) = Lib.strCells s := by unfold byteL Lib.strCells; rw [List.map_map]; rfl
theorem row_bytes {w : World} {g : Nat} : ∀ (l : List Int) (o : Nat), (∀ x ∈ l, U8 x) → (∀ i (h : i < l.length), w.cell? ⟨g, o + i, none⟩ = some (.int .u8 l[i])) → Row EByte 1 w g o l [] := by
  intro l
  induction l with
  | nil => intro o _ _; rfl
  | cons x r ih =>
    intro o hu hc
    refine ⟨[], [], rfl, ⟨rfl, by have := hc 0 (by simp); simpa using this, hu x (by simp)⟩, ih (o + 1) (fun y hy => hu y (by simp [hy])) (fun i h => ?_)⟩
    have := hc (i + 1) (by simp; omega)
    rw [show o + 1 + i = o + (i + 1) from by omega]
    simpa using this
theorem appL_bytes {w : World} {base : Nat} {e : TypeId} {v : Value} {n : Nat} {l : List Int} (hu : ∀ x ∈ l, U8 x) (hn : n = l.length) (h : w.ownsRow base e 1 v n (l.map (Value.int .u8))) : ∃ a cap, v = .slice a l.length cap ∧ AppL EByte 1 e w base a cap l [] := by
  subst hn
  obtain ⟨h0, ⟨rfl, hz⟩ | ⟨g, cap, cur, rfl, h1, h2, h3, h4, h5, h6⟩⟩ := h
  · have : l = [] := List.eq_nil_of_length_eq_zero hz
    subst this
    exact ⟨none, 0, rfl, Or.inl ⟨rfl, rfl, rfl, rfl⟩⟩
  · refine ⟨some ⟨g, 0, none⟩, cap, rfl, Or.inr ⟨g, cur, rfl, h1, h2, h3, h4, h5, row_bytes l 0 hu (fun i hi => ?_), by simp⟩⟩
    have e1 : (cur.toList.take (l.length * 1))[i]? = some (.int .u8 l[i]) := by rw [h6]; simp [hi]
    rw [List.getElem?_take, if_pos (by omega)] at e1
    rw [Nat.zero_add]
    simp [World.cell?, h2]
    simpa using e1
/-- append(out, s...) of a string. -/
theorem wpList_appStr {P : Program} {w : World} {ops : Array Oper} {rest : List Oper} {o : Oper} {act : Act} {Q : Exit → Act → World → Prop} {e : TypeId} (hgd : o.guard = none) (sl x : Operand) (t u : TypeId)
    (ho : o.op = .call { callee := .builtin .append, args := #[sl, x], argTypes := #[t, u] }) (ht : P.underlying t = some (.slice e)) (hu : P.underlying u = some .string) (hinfo : (P.info? e).map (fun i => (i.zero, i.size, i.bytes)) = some (some (.int .u8 0), 1, 1))
    (rlo : Nat) (a : Option Addr) (cap : Nat) (l : List Int) (hl : ∀ x ∈ l, U8 x) (hs : act.eval sl = .slice a l.length cap) (happ : AppL EByte 1 e w rlo a cap l []) (hlo : rlo ≤ w.heap.size) (s : ByteArray) (hx : act.eval x = .string s)
    (hbytes : l.length + s.size ≤ 140737488355328)
    (h : ∀ a' cap' w', AppL EByte 1 e w' rlo a' cap' (l ++ byteL s) [] → Below rlo w w' → (∀ f, f < w.heap.size → (∀ k, (Value.slice a l.length cap).ownBlock = some k → f ≠ k) → w'.heap[f]? = w.heap[f]?) → w.heap.size ≤ w'.heap.size → wpList P ops Q rest (act.put o.dst (.slice a' (l ++ byteL s).length cap')) w') : wpList P ops Q (o :: rest) act w := by
  obtain ⟨i, hi', hz0, hz1, hz2⟩ := info_parts hinfo
  obtain ⟨xs, q1, q2, q3⟩ := happ.owns
  have hxs : xs = l.map (Value.int .u8) := by
    rcases happ with ⟨rfl, rfl, rfl, _⟩ | ⟨g, cur, rfl, h1, h3, h4, h5, h6, h7, h8⟩
    · exact List.eq_nil_of_length_eq_zero (by simpa using q2)
    · apply List.ext_getElem?
      intro j
      by_cases hj : j < l.length
      · obtain ⟨F', hv, _⟩ := h7.get j hj
        have := q3 g rfl j (by omega)
        rw [← this]
        have hv2 := hv.2.1
        rw [Nat.mul_one] at hv2
        rw [hv2]; simp [hj]
      · rw [List.getElem?_eq_none (by omega), List.getElem?_eq_none (by simp; omega)]
  subst hxs
  refine Lib.wpList_append_own_string w hgd sl x t u ho rlo e i ht hu hi' hz0 hz1 hz2 (.slice a l.length cap) l.length (l.map (Value.int .u8)) hs q1 s hx (by unfold maxLen; omega) hbytes hlo (fun v' w' hown hgr _ => ?_)
  rw [← byteL_cells, ← List.map_append] at hown
  obtain ⟨a', cap', rfl, happ'⟩ := appL_bytes (fun x hx => by rcases List.mem_append.1 hx with h | h; exact hl x h; exact byteL_u8 s x h) (by rw [List.length_append, byteL_len]) hown
  have hlow : ∀ k, (Value.slice a l.length cap).ownBlock = some k → rlo ≤ k := fun k hk => (by
    rcases happ with ⟨rfl, rfl, rfl, _⟩ | ⟨g, cur, rfl, k1, _⟩
    · simp [Value.ownBlock] at hk
    · simp only [Value.ownBlock, Option.some.injEq] at hk; omega)
  exact h a' cap' w' happ' ⟨hgr.os, hgr.tape, hgr.output, hgr.size, fun f hf => hgr.block f (by omega) (fun e => by have := hlow f e.symm; omega)⟩ (fun f hf hne => hgr.block f hf (fun e => hne f e.symm rfl)) hgr.size
end Go.Proofs.YtpifadjlbjifhaaGreatDoor
namespace Go.Proofs.YtpifadjlbjifhaaGreatDoor
open Go.ChangeShapes Go.WideShapes Go.ChangeAt Go.RowKit Go.Joins
set_option linter.unusedVariables false
set_option maxRecDepth 100000
/-! ### Numbers in bytes, the greatest first; heads. No program in sight. -/
/-- A number stands in so many bytes. -/
def fitW (n w : Int) : Prop := 0 ≤ n ∧ ((w = 1 ∧ n < 256) ∨ (w = 2 ∧ n < 65536) ∨ (w = 4 ∧ n < 4294967296) ∨ w = 8)
instance (n w : Int) : Decidable (fitW n w) := by unfold fitW; infer_instance
def bigL (n : Int) : Nat → List Int
  | 0 => []
  | w + 1 => (n / 256 ^ w) % 256 :: bigL n w
theorem bigL_len (n : Int) : ∀ w : Nat, (bigL n w).length = w
  | 0 => rfl
  | w + 1 => by rw [bigL, List.length_cons, bigL_len n w]
theorem bigL_u8 (n : Int) : ∀ w : Nat, ∀ x ∈ bigL n w, U8 x
  | 0, x, h => by cases h
  | w + 1, x, h => by
    rw [bigL] at h
    rcases List.mem_cons.1 h with rfl | h
    · unfold U8; omega
    · exact bigL_u8 n w x h
def putBigD (b : List Int) (n w : Int) : List Int := if fitW n w then b ++ bigL n w.toNat else b
def widthD (n : Int) : Int := if n < 0 then 0 else if n < 256 then 1 else if n < 65536 then 2 else if n < 4294967296 then 4 else 8
theorem widthD_fit (n w : Int) (hn : 0 ≤ n) (hw : w = 1 ∨ w = 2 ∨ w = 4 ∨ w = 8) : fitW n w ↔ widthD n ≤ w := by
  unfold fitW widthD
  rw [if_neg (by omega)]
  by_cases h1 : n < 256
  · rw [if_pos h1]; omega
  · rw [if_neg h1]
    by_cases h2 : n < 65536
    · rw [if_pos h2]; omega
    · rw [if_neg h2]
      by_cases h3 : n < 4294967296
      · rw [if_pos h3]; omega
      · rw [if_neg h3]; omega
def headOk (maj n wide : Int) : Prop := (0 ≤ maj ∧ maj ≤ 7) ∧ (0 ≤ n ∧ n ≤ 1000000000000000) ∧ ((wide = 0 ∧ n ≤ 23) ∨ ((wide = 1 ∨ wide = 2 ∨ wide = 4 ∨ wide = 8) ∧ widthD n ≤ wide) ∨ (wide = -1 ∧ n = 0 ∧ maj ≠ 0 ∧ maj ≠ 1 ∧ maj ≠ 6))
instance (a b c : Int) : Decidable (headOk a b c) := by unfold headOk; infer_instance
def headForD (maj n : Int) : Int × Int × Int := if headOk maj n (if 23 < n then widthD n else 0) then (maj, n, if 23 < n then widthD n else 0) else (0, 0, 0)
def infoD (n wide : Int) : Int := if wide = 0 then n else if wide = 1 then 24 else if wide = 2 then 25 else if wide = 4 then 26 else if wide = 8 then 27 else 31
def headL (maj n wide : Int) : List Int := if headOk maj n wide then (32 * maj + infoD n wide) :: bigL n wide.toNat else []
theorem infoD_in {maj n wide : Int} (h : headOk maj n wide) : 0 ≤ infoD n wide ∧ infoD n wide ≤ 31 := by
  obtain ⟨_, h2, h3⟩ := h
  unfold infoD
  split
  · omega
  split
  · omega
  split
  · omega
  split
  · omega
  split <;> omega
theorem headL_len (maj n wide : Int) : (headL maj n wide).length ≤ 9 := by
  unfold headL
  split
  · rename_i h
    rw [List.length_cons, bigL_len]
    obtain ⟨_, _, h3⟩ := h
    omega
  · simp
theorem headL_u8 (maj n wide : Int) : ∀ x ∈ headL maj n wide, U8 x := by
  intro x hx
  unfold headL at hx
  split at hx
  · rename_i h
    rcases List.mem_cons.1 hx with rfl | hx
    · have := infoD_in h; obtain ⟨h1, _⟩ := h; unfold U8; omega
    · exact bigL_u8 _ _ x hx
  · cases hx
theorem headOk_fit {maj n wide : Int} (h : headOk maj n wide) (hw : 0 < wide) : fitW n wide := by
  obtain ⟨h1, h2, h3⟩ := h
  exact (widthD_fit n wide h2.1 (by omega)).2 (by omega)
/-- A head for a number, as bytes. -/
def hdL (maj n : Int) : List Int := headL (headForD maj n).1 (headForD maj n).2.1 (headForD maj n).2.2
theorem hdL_u8 (maj n : Int) : ∀ x ∈ hdL maj n, U8 x := headL_u8 _ _ _
theorem hdL_len (maj n : Int) : (hdL maj n).length ≤ 9 := headL_len _ _ _
theorem widthD_in (n : Int) (h : 0 ≤ n) : widthD n = 1 ∨ widthD n = 2 ∨ widthD n = 4 ∨ widthD n = 8 := by
  unfold widthD
  rw [if_neg (by omega)]
  split
  · omega
  split
  · omega
  split <;> omega
theorem headFor_ok {maj n : Int} (h1 : 0 ≤ maj ∧ maj ≤ 7) (h2 : 0 ≤ n ∧ n ≤ 1000000000000000) : headOk maj n (if 23 < n then widthD n else 0) := by
  have := widthD_in n h2.1
  refine ⟨h1, h2, ?_⟩
  by_cases h : 23 < n
  · rw [if_pos h]; exact Or.inr (Or.inl ⟨this, Int.le_refl _⟩)
  · rw [if_neg h]; exact Or.inl ⟨rfl, by omega⟩
theorem headForD_ok {maj n : Int} (h1 : 0 ≤ maj ∧ maj ≤ 7) (h2 : 0 ≤ n ∧ n ≤ 1000000000000000) : headForD maj n = (maj, n, if 23 < n then widthD n else 0) := if_pos (headFor_ok h1 h2)
def fltBitsD (m e : Int) : Int := if fltOk m e then 65536 * (e + 16) + m.natAbs + (if m < 0 then 16777216 else 0) else -1
theorem fltBitsD_in (m e : Int) : fltBitsD m e = -1 ∨ (0 ≤ fltBitsD m e ∧ fltBitsD m e ≤ 33554431) := by
  unfold fltBitsD
  split
  · rename_i h
    refine Or.inr ?_
    rcases h with ⟨rfl, rfl⟩ | ⟨h1, h2, h3, h4, h5⟩
    · simp
    · split <;> omega
  · exact Or.inl rfl
mutual
/-- A tree's bytes in the compact format. -/
def packT : T → List Int
  | .mk k n x s l =>
    if k = 1 then headL 7 22 0 else if k = 2 then headL 7 (if n = 1 then 21 else 20) 0
    else if k = 3 then (if -1000000000000000 ≤ n ∧ n ≤ 1000000000000000 then (if n < 0 then hdL 1 (-1 - n) else hdL 0 n) else [])
    else if k = 4 then headL 7 (fltBitsD n x) 4
    else if k = 5 then (if 0 ≤ n ∧ n ≤ 2 then headL 7 (32 + n) 1 else [])
    else if k = 7 then hdL 3 s.size ++ byteL s
    else if k = 8 then hdL 2 s.size ++ byteL s
    else if k = 9 then hdL 4 l.length ++ packTs l
    else if k = 10 then hdL 5 ((l.length / 2 : Nat) : Int) ++ packTs l
    else if k = 11 then (if 0 ≤ n ∧ n ≤ 1000000000000000 then hdL 6 n ++ packTs l else [])
    else []
def packTs : List T → List Int
  | [] => []
  | t :: r => packT t ++ packTs r
end
theorem packTs_append (a b : List T) : packTs (a ++ b) = packTs a ++ packTs b := by
  induction a with
  | nil => rfl
  | cons t r ih => rw [List.cons_append, packTs, packTs, ih, List.append_assoc]
theorem packTs_succ (l : List T) (j : Nat) (h : j < l.length) : packTs (l.take (j + 1)) = packTs (l.take j) ++ packT l[j] := by
  rw [take_snoc l j h, packTs_append]; simp [packTs]
theorem packT_u8 : ∀ t : T, ∀ x ∈ packT t, U8 x := by
  apply T.ind
  intro k n x s l ih y hy
  have hl : ∀ r : List T, (∀ t ∈ r, t ∈ l) → ∀ y ∈ packTs r, U8 y := by
    intro r
    induction r with
    | nil => intro _ y hy; cases hy
    | cons t r ihr =>
      intro hm y hy
      rw [packTs] at hy
      rcases List.mem_append.1 hy with hy | hy
      · exact ih t (hm t (List.mem_cons_self ..)) y hy
      · exact ihr (fun u hu => hm u (List.mem_cons_of_mem _ hu)) y hy
  have hl2 := hl l (fun _ h => h)
  rw [packT] at hy
  repeat' split at hy
  all_goals first
    | exact headL_u8 _ _ _ y hy
    | exact hdL_u8 _ _ y hy
    | (rcases List.mem_append.1 hy with hy | hy
       · exact hdL_u8 _ _ y hy
       · first | exact byteL_u8 _ y hy | exact hl2 y hy)
    | (cases hy)
theorem packT_len : ∀ t : T, (packT t).length ≤ 9 + 10 * T.sz t := by
  apply T.ind
  intro k n x s l ih
  have hl : ∀ r : List T, (∀ t ∈ r, t ∈ l) → (packTs r).length ≤ 10 * T.szL r := by
    intro r
    induction r with
    | nil => intro _; simp [packTs]
    | cons t r ihr =>
      intro hm
      have h1 := ih t (hm t (List.mem_cons_self ..))
      have h2 := ihr (fun u hu => hm u (List.mem_cons_of_mem _ hu))
      rw [packTs, List.length_append]; simp only [T.szL]; omega
  have hl2 := hl l (fun _ h => h)
  have hb := byteL_len s
  rw [packT]
  simp only [T.sz]
  repeat' split
  all_goals first
    | (have := headL_len 7 22 0; omega)
    | (have := headL_len 7 21 0; omega)
    | (have := headL_len 7 20 0; omega)
    | (have := headL_len 7 (fltBitsD n x) 4; omega)
    | (have := headL_len 7 (32 + n) 1; omega)
    | (have := hdL_len 1 (-1 - n); omega)
    | (have := hdL_len 0 n; omega)
    | (rw [List.length_append]; have := hdL_len 3 (s.size : Int); omega)
    | (rw [List.length_append]; have := hdL_len 2 (s.size : Int); omega)
    | (rw [List.length_append]; have := hdL_len 4 (l.length : Int); omega)
    | (rw [List.length_append]; have := hdL_len 5 ((l.length / 2 : Nat) : Int); omega)
    | (rw [List.length_append]; have := hdL_len 6 n; omega)
    | simp
theorem packTs_len (l : List T) : (packTs l).length ≤ 10 * T.szL l := by
  induction l with
  | nil => simp [packTs]
  | cons t r ih => rw [packTs, List.length_append]; simp only [T.szL]; have := packT_len t; omega
/-- The order of bytes. -/
def lexB : List Int → List Int → Bool
  | _, [] => false
  | [], _ :: _ => true
  | a :: x, b :: y => if a = b then lexB x y else decide (a < b)
/-- The names ascend. -/
def ascN : List T → Bool
  | a :: _ :: b :: r => lexB (packT a) (packT b) && ascN (b :: r)
  | _ => true
def tightB (t : T) : Bool := (decide (t.k ≠ 10) || ascN t.l) && decide (t.k ≠ 6)
end Go.Proofs.YtpifadjlbjifhaaGreatDoor
namespace Go.Proofs.YtpifadjlbjifhaaGreatDoor
open Go.ChangeShapes Go.WideShapes Go.ChangeAt Go.RowKit Go.Joins
set_option linter.unusedVariables false
set_option maxRecDepth 100000
/-! ### The names ascend: no program in sight -/
/-- The first j of these ascend. -/
def ascU (ns : List T) : Nat → Bool
  | 0 => true
  | 1 => true
  | j + 2 => ascU ns (j + 1) && lexB (packT (ns.getD j zT)) (packT (ns.getD (j + 1) zT))
theorem ascU_succ (ns : List T) (j : Nat) (h : j + 1 < ns.length) : ascU ns (j + 2) = (ascU ns (j + 1) && lexB (packT ns[j]) (packT ns[j + 1])) := by
  rw [ascU, List.getD_eq_getElem?_getD, List.getD_eq_getElem?_getD, List.getElem?_eq_getElem h, List.getElem?_eq_getElem (by omega)]; rfl
theorem ascU_false (ns : List T) (j n : Nat) (h : j ≤ n) (hf : ascU ns j = false) : ascU ns n = false := by
  induction n with
  | zero => rw [show j = 0 from by omega] at hf; exact hf
  | succ n ih =>
    by_cases hj : j = n + 1
    · subst hj; exact hf
    · have := ih (by omega)
      cases n with
      | zero => rw [ascU] at this; cases this
      | succ n => rw [ascU, this]; rfl
theorem evN_get (l : List T) (p j : Nat) (h : j < p) (hp : 2 * j < l.length) : (evN l p)[j]'(by rw [evN_len]; exact h) = l[2 * j] := by
  induction p with
  | zero => omega
  | succ p ih =>
    simp only [evN]
    by_cases hj : j < p
    · rw [List.getElem_append_left (by rw [evN_len]; exact hj)]; exact ih hj
    · have hjp : j = p := by omega
      subst hjp
      rw [List.getElem_append_right (by rw [evN_len]; omega)]
      simp only [List.getElem_singleton]
      rw [List.getD_eq_getElem?_getD, List.getElem?_eq_getElem hp]; rfl
/-- The names of a map ascend in the compact format, and there is no decimal number. -/
def tightU (t : T) : Bool := ascU (namesT t) (namesT t).length && decide (t.k ≠ 6)
theorem tightU_not {t : T} (h : t.k ≠ 10) : tightU t = decide (t.k ≠ 6) := by
  unfold tightU namesT; rw [if_neg h]; rfl
theorem tightU_map {t : T} (h : t.k = 10) : tightU t = ascU (evN t.l ((t.l.length + 1) / 2)) ((t.l.length + 1) / 2) := by
  unfold tightU namesT; rw [if_pos h, evN_len, decide_eq_true (by omega), Bool.and_true]
theorem evAsc_succ (l : List T) (p j : Nat) (hp : p = (l.length + 1) / 2) (h : 2 * j + 2 < l.length) : ascU (evN l p) (j + 2) = (ascU (evN l p) (j + 1) && lexB (packT l[2 * j]) (packT l[2 * j + 2])) := by
  have e1 : j + 1 < (evN l p).length := by rw [evN_len]; omega
  rw [ascU_succ _ _ e1, evN_get l p j (by omega) (by omega), evN_get l p (j + 1) (by omega) (by omega)]; rfl
end Go.Proofs.YtpifadjlbjifhaaGreatDoor
namespace Go.Proofs.YtpifadjlbjifhaaGreatDoor
open Go.ChangeShapes Go.WideShapes Go.ChangeAt Go.RowKit Go.Joins
set_option linter.unusedVariables false
set_option maxRecDepth 100000
/-! ### Append of whatever slice, empty or not: as an equation of the run -/
section
variable {α : Type} {E : World → Nat → Nat → α → List Nat → Prop} {n : Nat} {e : TypeId} {nd : Prop}
/-- What is appended: the slice value holds ys, whose own blocks are G. -/
def Srcs (E : World → Nat → Nat → α → List Nat → Prop) (n : Nat) (w : World) (a : Option Addr) (ys : List α) (G : List Nat) : Prop :=
  (ys = [] → G = []) ∧ (ys ≠ [] → ∃ b o, a = some ⟨b, o, none⟩ ∧ Row E n w b o ys G)
theorem Srcs.agree (hE : Elem E n) {w w' : World} {a : Option Addr} {ys : List α} {G : List Nat} (h : Srcs E n w a ys G) (hb : ∀ b o, a = some ⟨b, o, none⟩ → ys ≠ [] → w'.heap[b]? = w.heap[b]?) (hG : Agree w w' G) : Srcs E n w' a ys G := by
  refine ⟨h.1, fun hne => ?_⟩
  obtain ⟨b, o, ha, hr⟩ := h.2 hne
  exact ⟨b, o, ha, hr.agree hE.loc ys (Cells.of_block (hb b o ha hne) _ _) hG⟩
theorem Srcs.one {w : World} {b o : Nat} {y : α} {G : List Nat} (h : E w b o y G) : Srcs E n w (some ⟨b, o, none⟩) [y] G :=
  ⟨fun h => absurd h (by simp), fun _ => ⟨b, o, rfl, G, [], by simp, h, rfl⟩⟩
theorem run_append_zero {P : Program} (w : World) (t ty e : TypeId) (i : TypeInfo) (ht : P.underlying t = some (.slice e)) (hi : P.info? e = some i) (a a2 : Option Addr) (k cap c2 : Nat) (hk : k ≤ cap) :
    (Builtin.append_ #[t, t] ty #[.slice a k cap, .slice a2 0 c2]).run P w = .ok (.slice a k cap) w := by
  cases a2 with
  | none => exact run_append_nothing w t t ty e i ht hi a k cap hk _ (Src.ofNil w ht c2)
  | some ad => exact run_append_nothing w t t ty e i ht hi a k cap hk _ (Src.ofSlice w ht ad 0 c2 [] (by simp) (by simp) (by simp))
/-- A list whose elements' blocks lie below rlo. -/
theorem run_appL {P : Program} (w : World) (hE : Elem E n) (t ty : TypeId) (z : Value) (bytes : Nat) (ht : P.underlying t = some (.slice e)) (hinfo : (P.info? e).map (fun i => (i.zero, i.size, i.bytes)) = some (some z, n, bytes)) (hzs : z.cells.size = n)
    (rlo : Nat) (a : Option Addr) (cap : Nat) (l : List α) (F : List Nat) (happ : AppL E n e w rlo a cap l F) (hlo : rlo ≤ w.heap.size) (hcap : l.length ≤ cap)
    (a2 : Option Addr) (c2 : Nat) (ys : List α) (G : List Nat) (hys : Srcs E n w a2 ys G) (hG : ∀ f ∈ G, f < rlo) (h63 : l.length + ys.length ≤ maxLen) (hbytes : (l.length + ys.length) * bytes ≤ 140737488355328) :
    ∃ a' cap' w', (Builtin.append_ #[t, t] ty #[.slice a l.length cap, .slice a2 ys.length c2]).run P w = .ok (.slice a' (l ++ ys).length cap') w' ∧ AppL E n e w' rlo a' cap' (l ++ ys) (F ++ G) ∧ Below rlo w w' ∧
      (∀ f, f < w.heap.size → (∀ k, (Value.slice a l.length cap).ownBlock = some k → f ≠ k) → w'.heap[f]? = w.heap[f]?) ∧ (∀ k, (Value.slice a' (l ++ ys).length cap').ownBlock = some k → (Value.slice a l.length cap).ownBlock = some k ∨ k = w.heap.size) ∧ w.heap.size ≤ w'.heap.size := by
  obtain ⟨i, hi', hz0, hz1, hz2⟩ := info_parts hinfo
  by_cases hne : ys = []
  · subst hne
    rw [hys.1 rfl]
    simp only [List.append_nil]
    exact ⟨a, cap, w, run_append_zero w t ty e i ht hi' a a2 l.length cap c2 hcap, happ, Below.refl _ _, fun _ _ _ => rfl, fun k hk => Or.inl hk, Nat.le_refl _⟩
  · obtain ⟨b, off, rfl, hrow⟩ := hys.2 hne
    obtain ⟨xs, q1, q2, q3⟩ := happ.owns
    obtain ⟨news, n1, n2, n3⟩ := cells_list (hrow.cel hE ys)
    have hpos : 0 < ys.length := List.length_pos_iff.2 hne
    obtain ⟨g', cap', w', hr, hown, hgr, hat, hlt⟩ := run_append_lies (P := P) w t ty rlo e i z n bytes ht hi' hz0 hz1 hz2 hzs hE.pos (.slice a l.length cap) l.length xs q1 ⟨b, off, none⟩ ys.length c2 news n1 (fun j u hj => by
      have hj2 : j < ys.length * n := by
        rcases Nat.lt_or_ge j (ys.length * n) with h | h
        · exact h
        · rw [List.getElem?_eq_none (by omega)] at hj; cases hj
      rw [← hj, ← n2 j hj2, Addr.add_lit]) n3 hpos h63 hbytes hlo w.heap.size rfl
    obtain ⟨r1, r2⟩ := AppL.grown hE happ hrow hG hlo n1 n2 q3 q2 hown hgr
    rw [List.length_append]
    exact ⟨_, cap', w', hr, r1, r2, fun f hf hne => hgr.block f hf (fun e => hne f e.symm rfl), fun k hk => by
      have hk' : k = g' := by
        simp only [Value.ownBlock] at hk
        first | exact (Option.some.inj hk).symm | (split at hk <;> simp_all)
      subst hk'; exact hat, hgr.size⟩
/-- A list whose elements' blocks are its own. -/
theorem run_app {P : Program} (w : World) (hE : Elem E n) (t ty : TypeId) (z : Value) (bytes : Nat) (ht : P.underlying t = some (.slice e)) (hinfo : (P.info? e).map (fun i => (i.zero, i.size, i.bytes)) = some (some z, n, bytes)) (hzs : z.cells.size = n)
    (lo hi : Nat) (a : Option Addr) (cap : Nat) (l : List α) (happ : App E n e nd w lo hi a cap l) (hhi : hi ≤ w.heap.size) (hlo : lo ≤ hi)
    (a2 : Option Addr) (c2 : Nat) (ys : List α) (G : List Nat) (hys : Srcs E n w a2 ys G) (hG : G.Nodup) (hG2 : ∀ f ∈ G, hi ≤ f ∧ f < w.heap.size ∧ Unf w f) (h63 : l.length + ys.length ≤ maxLen) (hbytes : (l.length + ys.length) * bytes ≤ 140737488355328) :
    ∃ a' cap' w', (Builtin.append_ #[t, t] ty #[.slice a l.length cap, .slice a2 ys.length c2]).run P w = .ok (.slice a' (l ++ ys).length cap') w' ∧ App E n e nd w' lo w'.heap.size a' cap' (l ++ ys) ∧ Below lo w w' ∧
      (∀ f, f < w.heap.size → (∀ k, (Value.slice a l.length cap).ownBlock = some k → f ≠ k) → w'.heap[f]? = w.heap[f]?) ∧ w.heap.size ≤ w'.heap.size := by
  obtain ⟨i, hi', hz0, hz1, hz2⟩ := info_parts hinfo
  have hcap := happ.len.1
  by_cases hne : ys = []
  · subst hne
    simp only [List.append_nil]
    exact ⟨a, cap, w, run_append_zero w t ty e i ht hi' a a2 l.length cap c2 hcap, happ.more (Nat.le_refl _) hhi, Below.refl _ _, fun _ _ _ => rfl, Nat.le_refl _⟩
  · obtain ⟨b, off, rfl, hrow⟩ := hys.2 hne
    obtain ⟨xs, q1, q2, q3⟩ := happ.owns hE
    obtain ⟨news, n1, n2, n3⟩ := cells_list (hrow.cel hE ys)
    have hpos : 0 < ys.length := List.length_pos_iff.2 hne
    obtain ⟨g', cap', w', hr, hown, hgr, hat, hlt⟩ := run_append_lies (P := P) w t ty lo e i z n bytes ht hi' hz0 hz1 hz2 hzs hE.pos (.slice a l.length cap) l.length xs q1 ⟨b, off, none⟩ ys.length c2 news n1 (fun j u hj => by
      have hj2 : j < ys.length * n := by
        rcases Nat.lt_or_ge j (ys.length * n) with h | h
        · exact h
        · rw [List.getElem?_eq_none (by omega)] at hj; cases hj
      rw [← hj, ← n2 j hj2, Addr.add_lit]) n3 hpos h63 hbytes (by omega) w.heap.size rfl
    obtain ⟨r1, r2, r3⟩ := App.grown hE happ hhi hrow (fun _ => hG) (fun f hf => ⟨Nat.le_trans hlo (hG2 f hf).1, (hG2 f hf).2.1, (hG2 f hf).2.2, fun k hk => by have := (happ.row k hk).2; have := (hG2 f hf).1; omega⟩) (fun _ f hf => (hG2 f hf).1) n1 n2 q3 q2 hown hgr hat hlt
    rw [List.length_append]
    exact ⟨_, cap', w', hr, r1, r2 (by omega), r3, hgr.size⟩
/-- Elements that have no blocks of their own. -/
def Flat (E : World → Nat → Nat → α → List Nat → Prop) : Prop := ∀ (x : α) (w : World) (b o : Nat) (F : List Nat), E w b o x F → F = []
theorem Row.flat (hf : Flat E) {w : World} {b : Nat} : ∀ (l : List α) (o : Nat) (F : List Nat), Row E n w b o l F → F = [] := by
  intro l
  induction l with
  | nil => intro o F h; exact h
  | cons x r ih =>
    intro o F h
    obtain ⟨F1, F2, rfl, h1, h2⟩ := h
    rw [hf x w b o F1 h1, ih _ _ h2]; rfl
theorem Rd.srcs (hf : Flat E) {w : World} {B cap : Nat} {a : Option Addr} {l : List α} (h : Rd E n w B a cap l) : Srcs E n w a l [] := by
  obtain ⟨F, ⟨h1, h2, h3, h4⟩, hF⟩ := h
  refine ⟨fun _ => rfl, fun hne => ?_⟩
  obtain ⟨b, o, F', ha, rfl, hr⟩ := h4 hne
  exact ⟨b, o, ha, by have := hr.flat hf; subst this; exact hr⟩
theorem AppL.cap {w : World} {rlo cap : Nat} {a : Option Addr} {l : List α} {F : List Nat} (h : AppL E n e w rlo a cap l F) : l.length ≤ cap ∧ cap ≤ 9223372036854775807 := by
  rcases h with ⟨_, rfl, rfl, _⟩ | ⟨g, cur, ha, h1, h3, h4, h5, _⟩
  · simp
  · unfold maxLen at h5; exact ⟨h4, by omega⟩
theorem AppL.rd {w : World} {rlo cap : Nat} {a : Option Addr} {l : List α} {F : List Nat} (h : AppL E n e w rlo a cap l F) (hlo : rlo ≤ w.heap.size) : Rd E n w w.heap.size a cap l := by
  rcases h with ⟨rfl, rfl, rfl, rfl⟩ | ⟨g, cur, rfl, h1, h3, h4, h5, h6, h7, h8⟩
  · exact Rd.nil _ _
  · have hg : g < w.heap.size := (Array.getElem?_eq_some_iff.1 h3).1
    by_cases hl : l = []
    · subst hl; exact ⟨[], Sl.nil _ _ _ h5, by simp⟩
    · exact ⟨g :: F, ⟨h4, h5, fun h => absurd h hl, fun _ => ⟨g, 0, F, rfl, rfl, h7⟩⟩, fun f hf => by
        rcases List.mem_cons.1 hf with rfl | hf
        · exact hg
        · have := h8 f hf; omega⟩
theorem AppL.some {w : World} {rlo cap : Nat} {a : Option Addr} {l : List α} {F : List Nat} (h : AppL E n e w rlo a cap l F) (hl : l ≠ []) : ∃ g, a = .some ⟨g, 0, none⟩ := by
  rcases h with h | ⟨g, _, h, _⟩
  · exact absurd h.2.2.1 hl
  · exact ⟨g, h⟩
/-- At a step of a region that draws. -/
theorem step_append_run {P : Program} (w : World) {ops : Array Oper} {o : Oper} {a : Act} {K : Act → World → Prop} {Q : Exit → Act → World → Prop} {X : Prop} (hgd : o.guard = none) (s x : Operand) (t tn : TypeId)
    (ho : o.op = .call { callee := .builtin .append, args := #[s, x], argTypes := #[t, tn] }) (vs vx : Value) (hs : a.eval s = vs) (hx : a.eval x = vx)
    (v' : Value) (w' : World) (hr : (Builtin.append_ #[t, tn] o.type #[vs, vx]).run P w = .ok v' w') (h : K (a.put o.dst v') w') : if Region.wanted o (yielded ops a.tmps) = true then Oper.wp P o a w K Q else X := by
  have hw : Region.wanted o (yielded ops a.tmps) = true := by simp [Region.wanted, hgd]
  rw [if_pos hw]
  exact Lib.wp_append_run w s x t tn ho vs vx hs hx v' w' hr h
end
/-- A step of a region that draws, at this very world: for 'with_reducible refine at_world W ?_' as a guard. -/
theorem at_world {P : Program} {ops : Array Oper} {o : Oper} {a : Act} {K : Act → World → Prop} {Q : Exit → Act → World → Prop} {X : Prop} (w : World) (h : if Region.wanted o (yielded ops a.tmps) = true then Oper.wp P o a w K Q else X) : if Region.wanted o (yielded ops a.tmps) = true then Oper.wp P o a w K Q else X := h
theorem EInt.flat : Flat EInt := fun _ _ _ _ _ h => h.1
theorem EByte.flat : Flat EByte := fun _ _ _ _ _ h => h.1
theorem EStep.flat : Flat EStep := fun _ _ _ _ _ h => h.1
end Go.Proofs.YtpifadjlbjifhaaGreatDoor
namespace Go.Proofs.YtpifadjlbjifhaaGreatDoor
open Go.ChangeShapes Go.WideShapes Go.ChangeAt Go.RowKit Go.Joins
set_option linter.unusedVariables false
set_option maxRecDepth 100000
/-! ### A region that appends to a row of its own while a box of the round's stands: S says 'below N, and block X' -/
theorem keep_stepX {N X n : Nat} {W0 w1 w2 : World} (h : (∀ b o, (b < N ∨ b = X) → w1.cell? ⟨b, o, none⟩ = W0.cell? ⟨b, o, none⟩) ∧ Below N W0 w1) (hb : Below n w1 w2) (hn : N ≤ n) (hx : X < n) :
    (∀ b o, (b < N ∨ b = X) → w2.cell? ⟨b, o, none⟩ = W0.cell? ⟨b, o, none⟩) ∧ Below N W0 w2 :=
  ⟨fun b o hb' => (hb.cell (p := ⟨b, o, none⟩) (by show b < n; omega)).trans (h.1 b o hb'), h.2.trans (hb.mono hn)⟩
theorem keep_stepY {N X : Nat} {W0 w1 w2 : World} (h : (∀ b o, (b < N ∨ b = X) → w1.cell? ⟨b, o, none⟩ = W0.cell? ⟨b, o, none⟩) ∧ Below N W0 w1) (hb : Below N w1 w2) (hx : w2.heap[X]? = w1.heap[X]?) :
    (∀ b o, (b < N ∨ b = X) → w2.cell? ⟨b, o, none⟩ = W0.cell? ⟨b, o, none⟩) ∧ Below N W0 w2 := by
  refine ⟨fun b o hb' => ?_, h.2.trans hb⟩
  rcases hb' with hb' | rfl
  · exact (hb.cell (p := ⟨b, o, none⟩) hb').trans (h.1 b o (Or.inl hb'))
  · exact (World.cell?_of_block (w := w1) (a := ⟨b, o, none⟩) hx).trans (h.1 b o (Or.inr rfl))
section
variable {α : Type} {E : World → Nat → Nat → α → List Nat → Prop} {n : Nat} {e : TypeId}
/-- The row's own block lies below m. -/
theorem AppL.row {w : World} {rlo cap : Nat} {a : Option Addr} {l : List α} {F : List Nat} (h : AppL E n e w rlo a cap l F) : ∀ k, (Value.slice a l.length cap).ownBlock = Option.some k → rlo ≤ k ∧ k < w.heap.size := by
  intro k hk
  rcases h with ⟨rfl, rfl, rfl, _⟩ | ⟨g, cur, rfl, k1, h3, _⟩
  · simp [Value.ownBlock] at hk
  · simp only [Value.ownBlock, Option.some.injEq] at hk; subst hk; exact ⟨k1, (Array.getElem?_eq_some_iff.1 h3).1⟩
theorem step_appLX {P : Program} {w : World} (hE : Elem E n) {ops : Array Oper} {o : Oper} {act : Act} {K : Act → World → Prop} {Q : Exit → Act → World → Prop} {X : Prop} (hgd : o.guard = none) (s x : Operand) (t : TypeId)
    (ho : o.op = .call { callee := .builtin .append, args := #[s, x], argTypes := #[t, t] }) (z : Value) (bytes : Nat) (ht : P.underlying t = some (.slice e)) (hinfo : (P.info? e).map (fun i => (i.zero, i.size, i.bytes)) = some (some z, n, bytes)) (hzs : z.cells.size = n)
    (rlo : Nat) (a : Option Addr) (cap : Nat) (l : List α) (F : List Nat) (hs : act.eval s = .slice a l.length cap) (happ : AppL E n e w rlo a cap l F) (hlo : rlo ≤ w.heap.size)
    (b off m c : Nat) (ys : List α) (G : List Nat) (hx : act.eval x = .slice (some ⟨b, off, none⟩) m c) (hm : ys.length = m) (hys : Row E n w b off ys G) (hG : ∀ f ∈ G, f < rlo)
    (hpos : 0 < m) (h63 : l.length + m ≤ maxLen) (hbytes : (l.length + m) * bytes ≤ 140737488355328)
    (h : ∀ a' cap' w', AppL E n e w' rlo a' cap' (l ++ ys) (F ++ G) → Below rlo w w' → (∀ f, f < w.heap.size → (∀ k, (Value.slice a l.length cap).ownBlock = some k → f ≠ k) → w'.heap[f]? = w.heap[f]?) → K (act.put o.dst (.slice a' (l ++ ys).length cap')) w') : if Region.wanted o (yielded ops act.tmps) = true then Oper.wp P o act w K Q else X := by
  obtain ⟨i, hi', hz0, hz1, hz2⟩ := info_parts hinfo
  obtain ⟨xs, q1, q2, q3⟩ := happ.owns
  subst hm
  obtain ⟨news, n1, n2, n3⟩ := cells_list (hys.cel hE ys)
  refine step_append_lies w hgd s x t ho rlo e i z n bytes ht hi' hz0 hz1 hz2 hzs hE.pos (.slice a l.length cap) l.length xs hs q1 ⟨b, off, none⟩ ys.length c news hx n1 (fun j u hj => ?_) n3 hpos h63 hbytes hlo w.heap.size rfl (fun g' cap' w' hown hgr hat hlt => ?_)
  · have hj2 : j < ys.length * n := by
      rcases Nat.lt_or_ge j (ys.length * n) with h | h
      · exact h
      · rw [List.getElem?_eq_none (by omega)] at hj; cases hj
    rw [← hj, ← n2 j hj2, Addr.add_lit]
  · obtain ⟨r1, r2⟩ := AppL.grown hE happ hys hG hlo n1 n2 q3 q2 hown hgr
    have := h _ _ w' r1 r2 (fun f hf hne => hgr.block f hf (fun e => hne f e.symm rfl))
    rwa [List.length_append] at this
end
end Go.Proofs.YtpifadjlbjifhaaGreatDoor
