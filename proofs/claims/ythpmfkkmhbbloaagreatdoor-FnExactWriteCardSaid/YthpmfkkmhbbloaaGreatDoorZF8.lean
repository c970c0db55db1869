/- Texts of this proof, merged: NamesT2, FitsP. No condition beyond what each theorem states. -/
import Derived.Test.YthpmfkkmhbbloaaGreatDoorRows
import Derived.WalkKit
import Derived.ProofKit
import Derived.OpenShut
import Derived.Handy
import Derived.Lib.Hide
import Derived.Lib.SmallJoins
import Derived.Deep.RegionHeld3
import Derived.Deep.AppendLies
import Derived.Deep.RegionLaw
import Derived.Deep.QuietTactic
import Derived.BigQuiet
import Derived.Test.YthpmfkkmhbbloaaGreatDoorZF1
import Derived.Test.YthpmfkkmhbbloaaGreatDoorZF2
import Derived.Test.YthpmfkkmhbbloaaGreatDoorZF3
import Derived.Test.YthpmfkkmhbbloaaGreatDoorZF7
import Derived.Test.YthpmfkkmhbbloaaGreatDoorShelf
import Derived.Test.YthpmfkkmhbbloaaGreatDoorZF4
import Derived.Test.YthpmfkkmhbbloaaGreatDoorZF5
import Derived.Test.YthpmfkkmhbbloaaGreatDoorZF6
set_option linter.unusedSimpArgs false
set_option linter.unnecessarySimpa false
namespace Go.Proofs.YthpmfkkmhbbloaaGreatDoor
open Go.ChangeShapes Go.WideShapes Go.ChangeAt Go.RowKit Go.Joins
set_option linter.unusedVariables false
set_option maxRecDepth 100000
set_option maxHeartbeats 2000000 in
theorem spec_NamesOf (t : T) (a : Option Addr) (cap B : Nat) (w : World) (hr : R w B a cap t.l) (hB : B ≤ w.heap.size) (hct : T.count t ≤ 1073741824) :
    Calls Tryz.prog 100 #[.agg (cV t a cap)] w fun e w' => ∃ a' cap', e = .returned (.slice a' (namesT t).length cap') ∧ R w' w'.heap.size a' cap' (namesT t) ∧ Below w.heap.size w w' := by
  obtain ⟨k, n, x, s, l⟩ := t
  simp only [cV, T.k, T.n, T.x, T.s, T.l] at *
  simp only [T.count] at hct
  have hlc := T.length_le_countL l
  have hlc2 : l.length ≤ 1073741824 := by omega
  obtain ⟨hl1, hl2⟩ := hr.len
  have HR := Lib.hid hr; clear hr
  have h0 := App.empty (E := TV) (n := 5) (e := 29) (nd := True) (w.alloc (Obj.cells #[Value.int IntKind.i64 k, Value.int IntKind.i64 n, Value.int IntKind.i64 x, Value.string s, Value.slice a l.length cap] 29)) (w.heap.size + 1) (w.heap.size + 2) (by simp) (by simp)
  simp only [size_alloc] at h0
  by_cases hk : k = 10
  · subst hk
    have HNm := Lib.hid (show namesT (.mk 10 n x s l) = evN l ((l.length + 1) / 2) from if_pos rfl)
    go_enter Tryz.func100, Tryz.ntmps100
    go_wp2_with fail
    generalize hW : (w.alloc (Obj.cells #[Value.int IntKind.i64 10, Value.int IntKind.i64 n, Value.int IntKind.i64 x, Value.string s, Value.slice a l.length cap] 29)).alloc (Obj.cells #[] 29) = W0 at *
    have q1 : Is W0 w.heap.size 29 #[Value.int IntKind.i64 10, Value.int IntKind.i64 n, Value.int IntKind.i64 x, Value.string s, Value.slice a l.length cap] := by subst hW; exact (Is.new _ _ _).alloc _
    have H0 := Lib.hid (show Below w.heap.size w W0 from by subst hW; exact below2 _ _ _)
    have hs0 : W0.heap.size = w.heap.size + 2 := by subst hW; simp
    clear hW
    have HC := Lib.hid hct; clear hct
    go_loopw [3, 4, 5] (fun q iv _ wr => ∃ (i p : Nat) (ar : Option Addr) (cr : Nat), i ≤ l.length + 1 ∧ iv = .int .i64 i ∧ Hid (i = 2 * p) ∧ q = .slice ar (evN l p).length cr ∧ App TV 5 29 True wr (w.heap.size + 1) wr.heap.size ar cr (evN l p) ∧ Below (w.heap.size + 1) W0 wr) (fun _ iv _ _ => l.length + 2 - (intOf iv).toNat)
    case atStart => exact ⟨0, 0, _, _, by omega, rfl, rfl, rfl, h0.more (Nat.le_refl _) (by omega), Below.refl _ _⟩
    case round =>
      obtain ⟨i, p, ar, cr, hi', rfl, HI, rfl, happ, hb⟩ := hrel
      have hbs := hb.size
      have hbox := q1.below hb (by omega)
      obtain ⟨x0, x1, x2, x3, x4⟩ := hbox.cells5
      have lbox : w.heap.size < wr.heap.size := by omega
      have HBw := Lib.hid (H0.out.trans (hb.mono (by omega)))
      have hlen := evN_len l p
      by_cases hlt : i < l.length
      · obtain ⟨b, o, a2, cap2, rfl, hbl, d0, d1, d2, d3, d4, hwf, hq⟩ := (HR.out.below HBw.out hB).get i hlt
        have hlb : b < wr.heap.size := by omega
        have hcj := T.count_get l i hlt
        have HS := Lib.hid (evN_succ l p i HI.out hlt)
        have hip : p ≤ 1073741824 := by have := HI.out; omega
        have HWF := Lib.hid hwf; clear hwf
        have HA := Lib.hid happ; clear happ
        go_wp2_with fail
        refine (spec_l6Copy l[i] a2 cap2 B _ hq HWF.out (by omega) (by have := HC.out; omega)).mono ?_
        rintro e w2 ⟨a3, cap3, rfl, hown, hb2⟩
        obtain ⟨G, g1, g2, g3⟩ := hown
        have hs2 := hb2.size
        have H2 := Lib.hid (below1 w2 (.cells (cV l[i] a3 cap3) 29))
        have HB2 := Lib.hid hb2
        have HN := Lib.hid ((((HA.out.below TV.elem hb2 (Nat.le_refl _)).below TV.elem H2.out (by omega))).below TV.elem (below1 (w2.alloc (.cells (cV l[i] a3 cap3) 29)) (.cells (cV l[i] a3 cap3) 29)) (by simp; omega))
        have HTV := Lib.hid (TV.box (w := w2.alloc (.cells (cV l[i] a3 cap3) 29)) 29 (g1.agree (fun f hf => H2.out.block f (g3 f hf).2.2.lt)) HWF.out (fun f hf => by have := (g3 f hf).2.2.lt; simp; omega))
        have HG := Lib.hid (show ∀ f ∈ G, wr.heap.size ≤ f ∧ f < ((w2.alloc (.cells (cV l[i] a3 cap3) 29)).alloc (.cells (cV l[i] a3 cap3) 29)).heap.size ∧ Unf ((w2.alloc (.cells (cV l[i] a3 cap3) 29)).alloc (.cells (cV l[i] a3 cap3) 29)) f from fun f hf => ⟨by have := (g3 f hf).1; omega, by have := (g3 f hf).2.1; simp; omega, ((g3 f hf).2.2.alloc _).alloc _⟩)
        clear hb2 g1 g3
        go_wp2_with (at_builtin; refine wpList_app1 TV.elem rfl _ _ 27 rfl (.agg zV) 64 Tryz.underlying27 info_Val rfl (w.heap.size + 1) wr.heap.size ar cr (evN l p) (by first | rfl | (rw [hlen]; rfl)) HN.out (by simp; omega) (by omega) (w2.heap.size + 1) 0 1 l[i] G (by first | rfl | simp) (by first | exact HTV.out | (have := HTV.out; simpa using this)) g2 HG.out (by rw [hlen]; unfold maxLen; omega) (by rw [hlen]; omega) ?_; intro ar2 cr2 w3 happ3 hb3 _)
        go_roundw
        case rel => exact ⟨i + 2, p + 1, ar2, cr2, by omega, by go_num, by have := HI.out; show _ = _; omega, by rw [HS.out, List.length_append, hlen]; rfl, by rw [HS.out]; exact happ3, (hb.trans ((HB2.out.trans ((H2.out.trans ((below1 _ _).mono (by simp))).mono (by omega))).mono (by omega))).trans hb3⟩
        case measure => simp [intOf]; omega
      · have hp : p = (l.length + 1) / 2 := by have := HI.out; omega
        have HP := Lib.hid hp; clear hp
        go_wp2_with fail
        go_ret
        exact ⟨ar, cr, by rw [HNm.out, ← HP.out]; rfl, by rw [HNm.out, ← HP.out]; exact R.rd.2 happ.own.read, HBw.out⟩
  · have HNm := Lib.hid (show namesT (.mk k n x s l) = [] from if_neg hk)
    have hk2 : (k == 10) = false := by simpa using hk
    have hk3 : (k != 10) = true := by simpa using hk
    go_enter Tryz.func100, Tryz.ntmps100
    go_wp2_with fail
    generalize hW : (w.alloc (Obj.cells #[Value.int IntKind.i64 k, Value.int IntKind.i64 n, Value.int IntKind.i64 x, Value.string s, Value.slice a l.length cap] 29)).alloc (Obj.cells #[] 29) = W0 at *
    have q1 : Is W0 w.heap.size 29 #[Value.int IntKind.i64 k, Value.int IntKind.i64 n, Value.int IntKind.i64 x, Value.string s, Value.slice a l.length cap] := by subst hW; exact (Is.new _ _ _).alloc _
    have H0 := Lib.hid (show Below w.heap.size w W0 from by subst hW; exact below2 _ _ _)
    have hs0 : W0.heap.size = w.heap.size + 2 := by subst hW; simp
    clear hW
    go_loopw [3, 4, 5] (fun q iv _ wr => iv = .int .i64 0 ∧ q = .slice (some ⟨w.heap.size + 1, 0, none⟩) 0 0 ∧ Below W0.heap.size W0 wr) (fun _ _ _ _ => 0)
    case atStart => exact ⟨rfl, rfl, Below.refl _ _⟩
    case round =>
      obtain ⟨rfl, rfl, hb⟩ := hrel
      have hbs := hb.size
      have hbox := q1.below hb (by omega)
      obtain ⟨x0, x1, x2, x3, x4⟩ := hbox.cells5
      have lbox : w.heap.size < wr.heap.size := by omega
      go_wp2_with fail
      all_goals
        go_ret
        exact ⟨_, _, by rw [HNm.out]; rfl, by rw [HNm.out]; exact R.rd.2 ⟨[], Sl.nil _ _ _ (by unfold maxLen; omega), by simp⟩, H0.out.trans (hb.mono (by omega))⟩
set_option maxHeartbeats 1000000 in
theorem impl_OnceEach (t : T) (a : Option Addr) (cap B : Nat) (w : World) (hr : R w B a cap t.l) (hB : B ≤ w.heap.size) (hlc : t.l.length ≤ 1073741824) :
    Calls Tryz.prog 49 #[.agg (cV t a cap)] w fun e w' => e = .returned (.bool (onceB t)) ∧ Below w.heap.size w w' := by
  have hmf : ∀ (fn : Fn) (first cap : Array Value) (w : World), (Instr.makeFunc fn first cap).run Tryz.prog w = .ok (.func fn first cap) w := fun _ _ _ _ => rfl
  obtain ⟨ns, hns⟩ : ∃ ns, namesT t = ns := ⟨_, rfl⟩
  have HNS := Lib.hid hns; clear hns
  have HR := Lib.hid hr; clear hr
  go_enter Tryz.func49, Tryz.ntmps49
  go_wp2_with fail
  refine (impl_names t a cap B _ (HR.out.below (below1 _ _) hB) (by simp; omega) hlc).mono ?_
  rintro e w1 ⟨a1, c1, rfl, hr1, hb1⟩
  rw [HNS.out] at hr1 ⊢
  have HB1 := Lib.hid (below_step (below1 w _) hb1 (by simp)); clear hb1
  have hs1 := HB1.out.size
  obtain ⟨hn1, hn2⟩ := hr1.len
  have HR1 := Lib.hid hr1; clear hr1
  have HOB := Lib.hid (show onceB t = onceN ns ns.length from by unfold onceB; rw [HNS.out])
  go_wp2_with fail
  go_loopw [10, 4, 5] (fun iv _ _ wr => ∃ (j : Nat), j ≤ ns.length ∧ iv = .int .i64 j ∧ Hid (onceN ns j = true) ∧ Below w1.heap.size w1 wr) (fun iv _ _ _ => ns.length - (intOf iv).toNat)
  case atStart => exact ⟨0, Nat.zero_le _, rfl, rfl, Below.refl _ _⟩
  case round =>
    obtain ⟨j, hj, rfl, HJ, hb⟩ := hrel
    have hbs := hb.size
    by_cases hlt : j < ns.length
    · obtain ⟨b, o, a2, cap2, rfl, hbl, d0, d1, d2, d3, d4, hwf, hq⟩ := (HR1.out.below hb (Nat.le_refl _)).get j hlt
      have hlb : b < wr.heap.size := by omega
      have H5 := Lib.hid (below1 wr (.cells (cV ns[j] a2 cap2) 29))
      have q5 := Is.new wr (cV ns[j] a2 cap2) 29
      have HQ := Lib.hid hq; clear hq
      have HTk := Lib.hid ((HR1.out.below hb (Nat.le_refl _)).take j)
      have htl : (ns.take j).length = j := by rw [List.length_take]; omega
      have HS := Lib.hid (onceN_succ ns j hlt)
      have hjc : j ≤ c1 := by omega
      go_wp2_with fail
      have hs5 : (wr.alloc (.cells (cV ns[j] a2 cap2) 29)).heap.size = wr.heap.size + 1 := by simp
      generalize wr.alloc (.cells (cV ns[j] a2 cap2) 29) = W5 at *
      have H1 : ∀ u ∈ ns.take j, ∀ (a : Option Addr) (cap : Nat) (w' : World), Below W5.heap.size W5 w' → R w' w1.heap.size a cap u.l → Wf u → Calls Tryz.prog 77 #[.agg (cV u a cap), .pointer (some ⟨wr.heap.size, 0, none⟩)] w' fun e v => e = .returned (.bool (sameT u ns[j])) ∧ Below w'.heap.size w' v := by
        intro u hu a3 cap3 w' hb3 hr3 hwf3
        have hs3 := hb3.size
        have t2 := q5.below hb3 (by omega)
        obtain ⟨c0, c1', c2, c3, c4⟩ := t2.cells5
        have l2 : wr.heap.size < w'.heap.size := by omega
        have HQ3 := Lib.hid (HQ.out.below (H5.out.trans (hb3.mono (by omega))) (by omega))
        have HR3 := Lib.hid hr3; clear hr3 hwf3 hu hb3 d0 d1 d2 d3 d4 q5
        go_enter Tryz.func77, Tryz.ntmps77
        go_wp2_with fail
        refine (impl_SameVal u ns[j] a3 a2 cap3 cap2 w1.heap.size _ (HR3.out.below (below1 _ _) (by omega)) (HQ3.out.below (below1 _ _) (by omega)) (by simp; omega)).mono ?_
        rintro e w5 ⟨rfl, hb5⟩
        go_wp2_with fail
        go_ret
        exact ⟨rfl, below_step (below1 _ _) hb5 (by simp)⟩
      have cC := has_OnceEach_1 (fun u => sameT u ns[j]) wr.heap.size (ns.take j) (some ⟨b, o, none⟩) c1 w1.heap.size W5 (HTk.out.below H5.out (by omega)) (by omega) H1
      rw [htl] at cC
      have CC := Lib.hid cC; clear cC H1
      cases hv : (ns.take j).any fun u => sameT u ns[j] with
      | true =>
        have HD := Lib.hid (show onceB t = false from HOB.out.trans (onceN_false ns (j + 1) _ (by omega) (by rw [HS.out, hv, HJ.out]; rfl)))
        rw [hv] at CC
        clear hv
        first | (refine CC.out.mono ?_) | (go_wp2_with fail; refine CC.out.mono ?_)
        rintro e w6 ⟨rfl, hb6⟩
        go_wp2_with fail
        go_ret
        exact ⟨ret_b (by rw [HD.out]), (HB1.out.trans (hb.mono (by omega))).trans ((H5.out.trans (hb6.mono (by omega))).mono (by omega))⟩
      | false =>
        have HD := Lib.hid (show onceN ns (j + 1) = true from by rw [HS.out, hv, HJ.out]; rfl)
        rw [hv] at CC
        clear hv
        first | (refine CC.out.mono ?_) | (go_wp2_with fail; refine CC.out.mono ?_)
        rintro e w6 ⟨rfl, hb6⟩
        go_wp2_with fail
        go_roundw
        case rel => exact ⟨j + 1, by omega, by go_num, HD.out, hb.trans ((H5.out.trans (hb6.mono (by omega))).mono hbs)⟩
        case measure => simp [intOf]; omega
    · have hjj : ns.length = j := by omega
      have HD := Lib.hid (show onceB t = true from by rw [HOB.out, hjj]; exact HJ.out); clear hjj
      go_wp2_with fail
      go_ret
      exact ⟨ret_b (by rw [HD.out]), HB1.out.trans (hb.mono (by omega))⟩
end Go.Proofs.YthpmfkkmhbbloaaGreatDoor
namespace Go.Proofs.YthpmfkkmhbbloaaGreatDoor
open Go.ChangeShapes Go.WideShapes Go.ChangeAt Go.RowKit Go.Joins
set_option linter.unusedVariables false
set_option maxRecDepth 100000
set_option maxHeartbeats 1000000 in
theorem impl_textNames (t : T) (a : Option Addr) (cap B : Nat) (w : World) (hr : R w B a cap t.l) (hB : B ≤ w.heap.size) (hlc : t.l.length ≤ 1073741824) :
    Calls Tryz.prog 44 #[.agg (cV t a cap)] w fun e w' => e = .returned (.bool (textNm t)) ∧ Below w.heap.size w w' := by
  have HR := Lib.hid hr; clear hr
  have H0 := Lib.hid (below1 w (.cells (cV t a cap) 29))
  have q0 := Is.new w (cV t a cap) 29
  go_enter Tryz.func44, Tryz.ntmps44
  go_wp2_with fail
  refine (impl_OnceEach t a cap B _ (HR.out.below H0.out hB) (by simp; omega) hlc).mono ?_
  rintro e w1 ⟨rfl, hb1⟩
  have HB1 := Lib.hid (below_step H0.out hb1 (by simp))
  have p1 := q0.below hb1 (by simp)
  obtain ⟨r0, r1, r2, r3, r4⟩ := p1.cells5
  have l1 : w.heap.size < w1.heap.size := by have := hb1.size; simp at this; omega
  clear hb1
  cases hv : onceB t with
  | false =>
    have HD := Lib.hid (show textNm t = false from by unfold textNm; rw [hv]; rfl); clear hv
    go_wp2_with fail
    go_ret
    exact ⟨ret_b (by rw [HD.out]), HB1.out⟩
  | true =>
    have HD := Lib.hid (show textNm t = !((namesT t).any fun x => !decide (x.k = 7)) from by unfold textNm; rw [hv, Bool.true_and]; exact (any_not_all _ _).symm); clear hv
    go_wp2_with fail
    refine (impl_names t a cap B _ (HR.out.below HB1.out hB) (by omega) hlc).mono ?_
    rintro e w2 ⟨a2, c2, rfl, hr2, hb2⟩
    have H1 : ∀ u ∈ namesT t, ∀ (a : Option Addr) (cap : Nat) (w' : World), Below w2.heap.size w2 w' → R w' w2.heap.size a cap u.l → Wf u → Calls Tryz.prog 75 #[.agg (cV u a cap)] w' fun e v => e = .returned (.bool (!decide (u.k = 7))) ∧ Below w'.heap.size w' v := by
      intro u hu a3 cap3 w' hb3 hr3 hwf3
      clear hr3 hwf3 hu hb3 r0 r1 r2 r3 r4
      by_cases h7 : u.k = 7
      · have h7' : (u.k != 7) = false := by simp [h7]
        rw [decide_eq_true h7]; clear h7
        go_enter Tryz.func75, Tryz.ntmps75
        go_wp2_with fail
        go_ret
        exact ⟨ret_b (by first | rfl | exact h7'), below1 _ _⟩
      · have h7' : (u.k != 7) = true := by simp [h7]
        rw [decide_eq_false h7]; clear h7
        go_enter Tryz.func75, Tryz.ntmps75
        go_wp2_with fail
        go_ret
        exact ⟨ret_b (by first | rfl | exact h7'), below1 _ _⟩
    have cC := has_textNames_1 (fun x => !decide (x.k = 7)) (namesT t) a2 c2 w2.heap.size w2 hr2 (Nat.le_refl _) H1
    have CC := Lib.hid cC; clear cC H1 hr2
    generalize ((namesT t).any fun x => !decide (x.k = 7)) = r at *
    go_wp2_with fail
    refine CC.out.mono ?_
    rintro e w3 ⟨rfl, hb3⟩
    go_wp2_with fail
    go_ret
    exact ⟨ret_b (by rw [HD.out]), HB1.out.trans ((hb2.trans (hb3.mono hb2.size)).mono (by omega))⟩
set_option maxHeartbeats 2000000 in
theorem spec_OnceEach (t : T) (a : Option Addr) (cap B : Nat) (w : World) (hr : R w B a cap t.l) (hB : B ≤ w.heap.size) (hct : T.count t ≤ 1073741824) :
    Calls Tryz.prog 69 #[.agg (cV t a cap)] w fun e w' => e = .returned (.bool (onceB t)) ∧ Below w.heap.size w w' := by
  obtain ⟨ns, hns⟩ : ∃ ns, namesT t = ns := ⟨_, rfl⟩
  have HNS := Lib.hid hns; clear hns
  have HR := Lib.hid hr; clear hr
  go_enter Tryz.func69, Tryz.ntmps69
  go_wp2_with fail
  refine (spec_NamesOf t a cap B _ (HR.out.below (below1 _ _) hB) (by simp; omega) hct).mono ?_
  rintro e w1 ⟨a1, c1, rfl, hr1, hb1⟩
  rw [HNS.out] at hr1 ⊢
  have HB1 := Lib.hid (below_step (below1 w _) hb1 (by simp)); clear hb1
  have hs1 := HB1.out.size
  obtain ⟨hn1, hn2⟩ := hr1.len
  have HR1 := Lib.hid hr1; clear hr1
  have HOB := Lib.hid (show onceB t = onceN ns ns.length from by unfold onceB; rw [HNS.out])
  go_wp2_with fail
  go_loopw [4, 5] (fun iv _ wr => ∃ (j : Nat), j ≤ ns.length ∧ iv = .int .i64 j ∧ Hid (onceN ns j = true) ∧ Below w1.heap.size w1 wr) (fun iv _ _ => ns.length - (intOf iv).toNat)
  case atStart => exact ⟨0, Nat.zero_le _, rfl, rfl, Below.refl _ _⟩
  case round =>
    obtain ⟨j, hj, rfl, HJ, hb⟩ := hrel
    have hbs := hb.size
    rename World => wo
    by_cases hlt : j < ns.length
    · have HS := Lib.hid (onceN_succ ns j hlt)
      go_wp2_with fail
      go_loopw [5] (fun kv wr => ∃ (i : Nat), i ≤ j ∧ kv = .int .i64 i ∧ Hid ((ns.take i).any (fun u => sameT u ns[j]) = false) ∧ Below w1.heap.size w1 wr) (fun kv _ => j - (intOf kv).toNat)
      case atStart => exact ⟨0, Nat.zero_le _, rfl, rfl, hb⟩
      case round =>
        obtain ⟨i, hi, rfl, HI, hb2⟩ := hrel
        have hbs2 := hb2.size
        by_cases hlt2 : i < j
        · have hil : i < ns.length := by omega
          obtain ⟨b, o, a2, cap2, rfl, hbl, d0, d1, d2, d3, d4, hwf, hq⟩ := (HR1.out.below hb2 (Nat.le_refl _)).get j hlt
          obtain ⟨b', o', a3, cap3, ha, hbl', d0', d1', d2', d3', d4', hwf', hq'⟩ := (HR1.out.below hb2 (Nat.le_refl _)).get i hil
          injection ha with ha; injection ha with ha ha2; subst ha ha2
          have hlb : b < wr.heap.size := by omega
          have HQ := Lib.hid hq; clear hq
          have HQ' := Lib.hid hq'; clear hq' hwf hwf' hbl'
          have HT := Lib.hid (any_take_succ (fun u => sameT u ns[j]) ns i hil)
          have HC := Lib.hid (sameT_comm ns[i] ns[j])
          go_wp2_with fail
          go_region_held3 (fun w' => (∀ b o, b < wr.heap.size → w'.cell? ⟨b, o, none⟩ = wr.cell? ⟨b, o, none⟩) ∧ Below (wr.heap.size) wr w') (first | exact ⟨fun _ _ _ => rfl, (Below.refl _ _).drew⟩ | exact keep_step (by assumption) (Below.drew (Below.refl _ _)) (Nat.le_refl _) | exact keep_step (by assumption) (by assumption) (by first | omega | (simp only [World.size_drew]; omega) | (simp only [size_alloc]; omega) | (simp only [World.size_drew, size_alloc]; omega) | (have := (‹(_ ∧ Below (wr.heap.size) wr _)›).2.size; first | omega | (simp only [World.size_drew]; omega) | (simp only [size_alloc]; omega) | (simp only [World.size_drew, size_alloc]; omega) | (simp only [World.size_drew] at this; omega) | (simp only [size_alloc] at this; omega) | (simp only [World.size_drew, size_alloc] at this; omega))) | exact keep_step (by assumption) (below1 _ _) (by first | omega | (simp only [World.size_drew]; omega) | (simp only [size_alloc]; omega) | (simp only [World.size_drew, size_alloc]; omega) | (have := (‹(_ ∧ Below (wr.heap.size) wr _)›).2.size; first | omega | (simp only [World.size_drew]; omega) | (simp only [size_alloc]; omega) | (simp only [World.size_drew, size_alloc]; omega) | (simp only [World.size_drew] at this; omega) | (simp only [size_alloc] at this; omega) | (simp only [World.size_drew, size_alloc] at this; omega)))) (first | (go_at_call 102; refine (spec_SameVal ns[j] ns[i] a2 a3 cap2 cap3 w1.heap.size _ (HQ.out.below (‹_ ∧ Below (wr.heap.size) wr _›).2 (by omega)) (HQ'.out.below (‹_ ∧ Below (wr.heap.size) wr _›).2 (by omega)) (by have := (‹_ ∧ Below (wr.heap.size) wr _›).2.size; omega)).mono ?_; rintro e w3 ⟨rfl, hb3⟩))
          have HB3 := Lib.hid (show Below wr.heap.size wr _ from (‹_ ∧ Below (wr.heap.size) wr _›).2)
          cases hv : sameT ns[j] ns[i] with
          | true =>
            have HD := Lib.hid (show onceB t = false from HOB.out.trans (onceN_false ns (j + 1) _ (by omega) (by rw [HS.out, HJ.out, any_true (fun u => sameT u ns[j]) (ns.take j) i (by rw [List.length_take]; omega) (by rw [List.getElem_take]; exact HC.out.trans hv)]; rfl)))
            clear hv HT HC
            go_wp2_with fail
            go_ret
            exact ⟨ret_b (by rw [HD.out]), HB1.out.trans ((hb2.trans (HB3.out.mono hbs2)).mono (by omega))⟩
          | false =>
            have HD := Lib.hid (show (ns.take (i + 1)).any (fun u => sameT u ns[j]) = false from by rw [HT.out, HI.out]; simp only [Bool.false_or]; exact HC.out.trans hv)
            clear hv HT HC
            go_wp2_with fail
            go_roundw
            case rel => exact ⟨i + 1, by omega, by go_num, HD.out, hb2.trans (HB3.out.mono hbs2)⟩
            case measure => simp [intOf]; omega
        · have hij : i = j := by omega
          have hI2 := HI.out
          rw [hij] at hI2
          have HD := Lib.hid (show onceN ns (j + 1) = true from by rw [HS.out, HJ.out, hI2]; rfl)
          clear hI2
          clear hij
          go_wp2_with fail
          go_roundw
          case rel => exact ⟨j + 1, by omega, by go_num, HD.out, hb2⟩
          case measure => simp [intOf]; omega
    · have hjj : ns.length = j := by omega
      have HD := Lib.hid (show onceB t = true from by rw [HOB.out, hjj]; exact HJ.out); clear hjj
      go_wp2_with fail
      go_ret
      exact ⟨ret_b (by rw [HD.out]), HB1.out.trans (hb.mono (by omega))⟩
set_option maxHeartbeats 1000000 in
theorem spec_l11Names (t : T) (a : Option Addr) (cap B : Nat) (w : World) (hr : R w B a cap t.l) (hB : B ≤ w.heap.size) (hct : T.count t ≤ 1073741824) :
    Calls Tryz.prog 67 #[.agg (cV t a cap)] w fun e w' => e = .returned (.bool (textNm t)) ∧ Below w.heap.size w w' := by
  obtain ⟨ns, hns⟩ : ∃ ns, namesT t = ns := ⟨_, rfl⟩
  have HNS := Lib.hid hns; clear hns
  have HR := Lib.hid hr; clear hr
  have H0 := Lib.hid (below1 w (.cells (cV t a cap) 29))
  have q0 := Is.new w (cV t a cap) 29
  go_enter Tryz.func67, Tryz.ntmps67
  go_wp2_with fail
  refine (spec_NamesOf t a cap B _ (HR.out.below (below1 _ _) hB) (by simp; omega) hct).mono ?_
  rintro e w1 ⟨a1, c1, rfl, hr1, hb1⟩
  rw [HNS.out] at hr1 ⊢
  have HB1 := Lib.hid (below_step (below1 w _) hb1 (by simp))
  have p1 := q0.below hb1 (by simp)
  have hs1 := hb1.size
  have hs2 : w.heap.size < w1.heap.size := by simp at hs1; omega
  clear hb1 hs1
  obtain ⟨hn1, hn2⟩ := hr1.len
  have HR1 := Lib.hid hr1; clear hr1
  have HT := Lib.hid (show textNm t = (onceB t && ns.all fun x => decide (x.k = 7)) from by unfold textNm; rw [HNS.out])
  go_wp2_with fail
  go_loopw [4] (fun iv wr => ∃ (j : Nat), j ≤ ns.length ∧ iv = .int .i64 j ∧ Hid ((ns.take j).all (fun x => decide (x.k = 7)) = true) ∧ Below w1.heap.size w1 wr) (fun iv _ => ns.length - (intOf iv).toNat)
  case atStart => exact ⟨0, Nat.zero_le _, rfl, rfl, Below.refl _ _⟩
  case round =>
    obtain ⟨j, hj, rfl, HJ, hb⟩ := hrel
    have hbs := hb.size
    by_cases hlt : j < ns.length
    · obtain ⟨b, o, a2, cap2, rfl, hbl, d0, d1, d2, d3, d4, hwf, hq⟩ := (HR1.out.below hb (Nat.le_refl _)).get j hlt
      have hlb : b < wr.heap.size := by omega
      clear hwf hq
      have HA := Lib.hid (all_take_succ (fun x => decide (x.k = 7)) ns j hlt)
      by_cases h7 : ns[j].k = 7
      · have h7' : (ns[j].k != 7) = false := by simp [h7]
        have HD := Lib.hid (show (ns.take (j + 1)).all (fun x => decide (x.k = 7)) = true from by rw [HA.out, HJ.out, decide_eq_true h7]; rfl)
        clear h7 HA
        go_wp2_with fail
        go_roundw
        case rel => exact ⟨j + 1, by omega, by go_num, HD.out, hb⟩
        case measure => simp [intOf]; omega
      · have h7' : (ns[j].k != 7) = true := by simp [h7]
        have HD := Lib.hid (show textNm t = false from by rw [HT.out, all_false _ ns j hlt (decide_eq_false h7), Bool.and_false])
        clear h7 HA
        go_wp2_with fail
        go_ret
        exact ⟨ret_b (by rw [HD.out]), HB1.out.trans (hb.mono (by omega))⟩
    · have hjj : ns.length = j := by omega
      have HD := Lib.hid (show textNm t = onceB t from by rw [HT.out, show ns.all (fun x => decide (x.k = 7)) = true from by rw [← List.take_length (l := ns), hjj]; exact HJ.out, Bool.and_true]); clear hjj
      have p2 := p1.below hb hs2
      obtain ⟨r0, r1, r2, r3, r4⟩ := p2.cells5
      have l2 : w.heap.size < wr.heap.size := by omega
      have HBw := Lib.hid (HB1.out.trans (hb.mono (by omega)))
      go_wp2_with fail
      refine (spec_OnceEach t a cap B _ (HR.out.below HBw.out hB) (by omega) hct).mono ?_
      rintro e w5 ⟨rfl, hb5⟩
      go_wp2_with fail
      go_ret
      exact ⟨ret_b (by rw [HD.out]), HBw.out.trans (hb5.mono HBw.out.size)⟩
/-- Can a right value stand in plain text? -/
def fitB (t : T) : Bool := decide (t.k = 1 ∨ t.k = 2 ∨ t.k = 4 ∨ t.k = 7 ∨ t.k = 9) || (decide (t.k = 10) && textNm t)
theorem fitB_yes {t : T} (h : t.k = 1 ∨ t.k = 2 ∨ t.k = 4 ∨ t.k = 7 ∨ t.k = 9) : fitB t = true := by unfold fitB; rw [decide_eq_true h]; rfl
theorem fitB_map {t : T} (h : t.k = 10) : fitB t = textNm t := by unfold fitB; rw [decide_eq_true h, decide_eq_false (by omega)]; rfl
theorem fitB_no {t : T} (h : ¬ (t.k = 1 ∨ t.k = 2 ∨ t.k = 4 ∨ t.k = 7 ∨ t.k = 9)) (h2 : t.k ≠ 10) : fitB t = false := by unfold fitB; rw [decide_eq_false h, decide_eq_false h2]; rfl
set_option maxHeartbeats 1000000 in
theorem impl_fit (t : T) (a : Option Addr) (cap B : Nat) (w : World) (hr : R w B a cap t.l) (hwf : Wf t) (hsz : T.sz t ≤ 1048576) (he : Env B w) (hB : B ≤ w.heap.size) :
    Calls Tryz.prog 52 #[.agg (cV t a cap)] w fun e w' => e = .returned (.bool (fitB t)) ∧ Below w.heap.size w w' := by
  have hlc : t.l.length ≤ 1073741824 := by have := T.length_le_szL t.l; have := sz_list t; omega
  have HR := Lib.hid hr; clear hr
  obtain ⟨hk0, hk1⟩ := hwf.1
  have HT := Lib.hid (fun W (h : R W B a cap t.l) (hb : B ≤ W.heap.size) => impl_textNames t a cap B W h hb hlc)
  clear hwf he
  by_cases h : t.k = 1 ∨ t.k = 2 ∨ t.k = 4 ∨ t.k = 7 ∨ t.k = 9
  · have HD := Lib.hid (fitB_yes h)
    obtain ⟨k, n, x, s, l⟩ := t
    simp only [T.k, T.n, T.x, T.s, T.l, cV] at *
    obtain rfl | rfl | rfl | rfl | rfl := h
    all_goals
      go_enter Tryz.func52, Tryz.ntmps52
      go_wp2_with fail
      go_ret
      exact ⟨ret_b (by rw [HD.out]), below1 _ _⟩
  · by_cases h2 : t.k = 10
    · have HD := Lib.hid (fitB_map h2)
      obtain ⟨k, n, x, s, l⟩ := t
      simp only [T.k, T.n, T.x, T.s, T.l, cV] at *
      subst h2
      go_enter Tryz.func52, Tryz.ntmps52
      go_wp2_with fail
      refine (HT.out _ (HR.out.below (below1 _ _) hB) (by simp; omega)).mono ?_
      rintro e w2 ⟨rfl, hb2⟩
      go_wp2_with fail
      go_ret
      exact ⟨ret_b (by rw [HD.out]), below_step (below1 _ _) hb2 (by simp)⟩
    · have HD := Lib.hid (fitB_no h h2)
      obtain ⟨k, n, x, s, l⟩ := t
      simp only [T.k, T.n, T.x, T.s, T.l, cV] at *
      have e1 : ¬ k = 1 := by omega
      have e2 : ¬ k = 2 := by omega
      have e4 : ¬ k = 4 := by omega
      have e7 : ¬ k = 7 := by omega
      have e9 : ¬ k = 9 := by omega
      go_enter Tryz.func52, Tryz.ntmps52
      go_wp2_with fail
      all_goals
        go_ret
        exact ⟨ret_b (by rw [HD.out]; first | done | simp [h2]), below1 _ _⟩
set_option maxHeartbeats 2000000 in
theorem every_fit (hp : ∀ t : T, ∀ (a : Option Addr) (cap B : Nat) (w : World), R w B a cap t.l → Wf t → T.sz t ≤ 1048576 → Env B w → B ≤ w.heap.size → Calls Tryz.prog 52 #[.agg (cV t a cap)] w fun e v => e = .returned (.bool (fitB t)) ∧ Below w.heap.size w v) :
    ∀ t : T, ∀ (a : Option Addr) (cap B : Nat) (w : World), R w B a cap t.l → Wf t → T.sz t ≤ 1048576 → Env B w → B ≤ w.heap.size →
    Calls Tryz.prog 42 #[.agg (cV t a cap), .func (.func 52) #[] #[]] w fun e w' => e = .returned (.bool (allB fitB t)) ∧ Below w.heap.size w w' := by
  have HP := Lib.hid hp; clear hp
  intro t
  induction t using T.ind with
  | h k n x s l ih =>
    intro a cap B w hr hwf hsz henv hB
    have IH := Lib.hid ih; clear ih
    have HPT := Lib.hid (fun W h1 h2 h3 h4 => HP.out (.mk k n x s l) a cap B W h1 hwf hsz h3 h4 : ∀ W, R W B a cap l → True → Env B W → B ≤ W.heap.size → _)
    have HALL := Lib.hid (allB_eq fitB (.mk k n x s l))
    simp only [cV, T.k, T.n, T.x, T.s, T.l] at hr HPT ⊢
    rw [sz_of] at hsz
    obtain ⟨hlc, hcap⟩ := hr.len
    have HR := Lib.hid hr; clear hr
    have HE := Lib.hid henv; clear henv hwf
    have hmf : ∀ (fn : Fn) (first cap : Array Value) (w : World), (Instr.makeFunc fn first cap).run Tryz.prog w = .ok (.func fn first cap) w := fun _ _ _ _ => rfl
    go_enter Tryz.func42, Tryz.ntmps42
    go_wp2_with fail
    generalize hW : (w.alloc (Obj.cells #[Value.int IntKind.i64 k, Value.int IntKind.i64 n, Value.int IntKind.i64 x, Value.string s, Value.slice a l.length cap] 29)).alloc (Obj.cells #[.func (.func 52) #[] #[]] 39) = W0
    have q1 : Is W0 w.heap.size 29 #[Value.int IntKind.i64 k, Value.int IntKind.i64 n, Value.int IntKind.i64 x, Value.string s, Value.slice a l.length cap] := by subst hW; exact (Is.new _ _ _).alloc _
    have q2 : Is W0 (w.heap.size + 1) 39 #[.func (.func 52) #[] #[]] := by subst hW; exact Is.new2 _ _ _ _
    have H0 := Lib.hid (show Below w.heap.size w W0 from by subst hW; exact below2 _ _ _)
    have hs0 : W0.heap.size = w.heap.size + 2 := by subst hW; simp
    clear hW
    refine (HPT.out W0 (HR.out.below H0.out hB) trivial (HE.out.step (H0.out.mono hB)) (by omega)).mono ?_
    rintro e w2 ⟨rfl, hb2⟩
    have hs2 := hb2.size
    have p1 := q1.below hb2 (by omega)
    have p2 := q2.below hb2 (by omega)
    obtain ⟨r0, r1, r2, r3, r4⟩ := p1.cells5
    have l1 : w.heap.size < w2.heap.size := by omega
    have HB2 := Lib.hid (H0.out.trans (hb2.mono (by omega)))
    clear HPT
    cases hv : fitB (.mk k n x s l) with
    | false =>
      have HD := Lib.hid (show allB fitB (.mk k n x s l) = false from by rw [HALL.out, hv]; rfl)
      clear hv HALL
      go_wp2_with fail
      go_ret
      exact ⟨ret_b (by rw [HD.out]), HB2.out⟩
    | true =>
      have HD := Lib.hid (show allB fitB (.mk k n x s l) = !(l.any fun x => !allB fitB x) from by rw [HALL.out, hv]; simp only [T.l, Bool.true_and]; exact (any_not_all _ _).symm)
      clear hv HALL
      have H1 : ∀ t ∈ l, ∀ (a : Option Addr) (cap : Nat) (w' : World), Below w2.heap.size w2 w' → R w' B a cap t.l → Wf t → Calls Tryz.prog 74 #[.agg (cV t a cap), .pointer (some ⟨w.heap.size + 1, 0, none⟩)] w' fun e v => e = .returned (.bool (!allB fitB t)) ∧ Below w'.heap.size w' v := by
        intro t ht a3 cap3 w' hb3 hr3 hwf3
        obtain ⟨i, hi, rfl⟩ := List.mem_iff_getElem.1 ht
        have hszi := T.sz_get l i hi
        have hs3 := hb3.size
        have t2 := p2.below hb3 (by omega)
        have c0 := t2.cell 0 rfl
        simp only [List.getElem_toArray, List.getElem_cons_zero] at c0
        have l2 : w.heap.size + 1 < w'.heap.size := by omega
        have HWF := Lib.hid hwf3; clear hwf3
        have HR3 := Lib.hid hr3; clear hr3
        have HB3 := Lib.hid (HB2.out.trans (hb3.mono (by omega)))
        clear hb3 p1 q1 q2 r0 r1 r2 r3 r4 ht
        go_enter Tryz.func74, Tryz.ntmps74
        go_wp2_with fail
        refine (IH.out l[i] (List.getElem_mem hi) a3 cap3 B _ (HR3.out.below (below1 _ _) (by omega)) HWF.out (by omega) (HE.out.step ((HB3.out.mono hB).trans ((below1 _ _).mono (by omega)))) (by simp; omega)).mono ?_
        rintro e w5 ⟨rfl, hb5⟩
        go_wp2_with fail
        go_ret
        exact ⟨rfl, below_step (below1 _ _) hb5 (by simp)⟩
      have cC := has_every_1 (fun x => !allB fitB x) (w.heap.size + 1) l a cap B w2 (HR.out.below HB2.out hB) (by omega) H1
      have CC := Lib.hid cC; clear cC H1
      generalize (l.any fun x => !allB fitB x) = r at *
      go_wp2_with fail
      refine CC.out.mono ?_
      rintro e w6 ⟨rfl, hb6⟩
      go_wp2_with fail
      go_ret
      exact ⟨ret_b (by rw [HD.out]), HB2.out.trans (hb6.mono (by omega))⟩
set_option maxHeartbeats 1000000 in
theorem impl_FitsPlain (t : T) (a : Option Addr) (cap B : Nat) (w : World) (hr : R w B a cap t.l) (hwf : Wf t) (hsz : T.sz t ≤ 1048576) (he : Env B w) (hB : B ≤ w.heap.size) :
    Calls Tryz.prog 25 #[.agg (cV t a cap)] w fun e w' => e = .returned (.bool (allB ownB t && allB fitB t)) ∧ Below w.heap.size w w' := by
  have HR := Lib.hid hr; clear hr
  have HE := Lib.hid he; clear he
  have HWF := Lib.hid hwf; clear hwf
  have H0 := Lib.hid (below1 w (.cells (cV t a cap) 29))
  have q0 := Is.new w (cV t a cap) 29
  go_enter Tryz.func25, Tryz.ntmps25
  go_wp2_with fail
  refine (impl_ValOk t a cap B _ (HR.out.below H0.out hB) HWF.out hsz (HE.out.step (H0.out.mono hB)) (by simp; omega)).mono ?_
  rintro e w1 ⟨rfl, hb1⟩
  have HB1 := Lib.hid (below_step H0.out hb1 (by simp))
  have p1 := q0.below hb1 (by simp)
  obtain ⟨r0, r1, r2, r3, r4⟩ := p1.cells5
  have l1 : w.heap.size < w1.heap.size := by have := hb1.size; simp at this; omega
  clear hb1
  cases hv : allB ownB t with
  | false =>
    have HV := Lib.hid hv; clear hv
    go_wp2_with fail
    go_ret
    exact ⟨ret_b (by rw [HV.out]; rfl), HB1.out⟩
  | true =>
    have HV := Lib.hid hv; clear hv
    have HC := Lib.hid (every_fit (fun t a cap B w h1 h2 h3 h4 h5 => impl_fit t a cap B w h1 h2 h3 h4 h5) t a cap B w1 (HR.out.below HB1.out hB) HWF.out hsz (HE.out.step (HB1.out.mono hB)) (by omega))
    go_wp2_with fail
    refine HC.out.mono ?_
    rintro e w2 ⟨rfl, hb2⟩
    go_wp2_with fail
    go_ret
    exact ⟨ret_b (by rw [HV.out]; rfl), HB1.out.trans (hb2.mono HB1.out.size)⟩
set_option maxHeartbeats 4000000 in
theorem spec_l17Fits : ∀ t : T, ∀ (a : Option Addr) (cap B : Nat) (w : World), R w B a cap t.l → Wf t → T.sz t ≤ 1048576 → B ≤ w.heap.size →
    Calls Tryz.prog 40 #[.agg (cV t a cap)] w fun e w' => e = .returned (.bool (allB fitB t)) ∧ Below w.heap.size w w' := by
  intro t
  induction t using T.ind with
  | h k n x s l ih =>
    intro a cap B w hr hwf hsz hB
    have IH := Lib.hid ih; clear ih
    obtain ⟨hk, hn, hx, _⟩ := hwf
    have hct : T.count (.mk k n x s l) ≤ 1073741824 := by have := T.countL_le_szL (.mk k n x s l); omega
    have HTN := Lib.hid (fun W (h : R W B a cap l) (hb : B ≤ W.heap.size) => spec_l11Names (.mk k n x s l) a cap B W h hb hct)
    simp only [cV, T.k, T.n, T.x, T.s, T.l] at hr hk hn hx HTN ⊢
    obtain ⟨hk0, hk1⟩ := hk
    rw [sz_of] at hsz
    obtain ⟨hlc, hcap⟩ := hr.len
    have HR := Lib.hid hr; clear hr hct
    have HALL0 := Lib.hid (allB_eq fitB (.mk k n x s l))
    go_enter Tryz.func40, Tryz.ntmps40
    go_wp2_with fail
    generalize hW : w.alloc (Obj.cells #[Value.int IntKind.i64 k, Value.int IntKind.i64 n, Value.int IntKind.i64 x, Value.string s, Value.slice a l.length cap] 29) = W0
    have q1 : Is W0 w.heap.size 29 #[Value.int IntKind.i64 k, Value.int IntKind.i64 n, Value.int IntKind.i64 x, Value.string s, Value.slice a l.length cap] := by subst hW; exact Is.new _ _ _
    have H0 := Lib.hid (show Below w.heap.size w W0 from by subst hW; exact below1 _ _)
    have hs0 : W0.heap.size = w.heap.size + 1 := by subst hW; simp
    clear hW
    go_loopw [3] (fun i wr => ∃ (j : Nat), j ≤ l.length ∧ i = .int .i64 j ∧ Hid ((l.take j).all (allB fitB) = true) ∧ Below W0.heap.size W0 wr) (fun i _ => l.length - (intOf i).toNat)
    case atStart => exact ⟨0, Nat.zero_le _, rfl, rfl, Below.refl _ _⟩
    case round =>
      obtain ⟨j, hj, rfl, HA, hb⟩ := hrel
      have hbs := hb.size
      have hbox := q1.below hb (by omega)
      obtain ⟨x0, x1, x2, x3, x4⟩ := hbox.cells5
      have hlt2 : w.heap.size < wr.heap.size := by omega
      have HBw := Lib.hid (H0.out.trans (hb.mono (by omega)))
      by_cases hlt : j < l.length
      · obtain ⟨b, o, a2, cap2, rfl, hbl, d0, d1, d2, d3, d4, hwfj, hq⟩ := (HR.out.below HBw.out hB).get j hlt
        have hlb : b < wr.heap.size := by omega
        have hszj := T.sz_get l j hlt
        have HWF := Lib.hid hwfj; clear hwfj
        have HQ := Lib.hid hq; clear hq
        have HT := Lib.hid (all_take_succ (allB fitB) l j hlt)
        have HF := Lib.hid (all_false (allB fitB) l j hlt)
        go_wp2_with fail
        refine (IH.out l[j] (List.getElem_mem hlt) a2 cap2 B wr HQ.out HWF.out (by omega) (by omega)).mono ?_
        rintro e w2 ⟨rfl, hb2⟩
        cases hv : allB fitB l[j] with
        | false =>
          have HE := Lib.hid (show allB fitB (.mk k n x s l) = false from by rw [HALL0.out]; simp only [T.l]; rw [HF.out hv, Bool.and_false])
          clear HF HT hv
          go_wp2_with fail
          go_ret
          exact ⟨ret_b (by rw [HE.out]), HBw.out.trans (hb2.mono HBw.out.size)⟩
        | true =>
          have HE := Lib.hid (show (l.take (j + 1)).all (allB fitB) = true from by rw [HT.out, HA.out, hv]; rfl)
          clear HF HT hv
          go_wp2_with fail
          go_roundw
          case rel => exact ⟨j + 1, by omega, by go_num, HE.out, hb.trans (hb2.mono hbs)⟩
          case measure => simp [intOf]; omega
      · have hjj : l.length = j := by omega
        have HJ := Lib.hid (show l.take j = l from by rw [← hjj, List.take_length]); clear hjj
        have HALL := Lib.hid (show allB fitB (.mk k n x s l) = fitB (.mk k n x s l) from by rw [HALL0.out]; simp only [T.l]; rw [show l.all (allB fitB) = true from by rw [← HJ.out]; exact HA.out, Bool.and_true])
        clear HA HJ IH HALL0 hb q1 H0 hs0
        by_cases h : k = 1 ∨ k = 2 ∨ k = 4 ∨ k = 7 ∨ k = 9
        · have HD := Lib.hid (HALL.out.trans (fitB_yes (t := .mk k n x s l) h))
          obtain rfl | rfl | rfl | rfl | rfl := h
          all_goals
            go_wp2_with fail
            go_ret
            exact ⟨ret_b (by rw [HD.out]), HBw.out⟩
        · by_cases h2 : k = 10
          · have HD := Lib.hid (HALL.out.trans (fitB_map (t := .mk k n x s l) h2))
            subst h2
            go_wp2_with fail
            refine (HTN.out _ (HR.out.below HBw.out hB) (by omega)).mono ?_
            rintro e w2 ⟨rfl, hb2⟩
            go_wp2_with fail
            go_ret
            exact ⟨ret_b (by rw [HD.out]), HBw.out.trans (hb2.mono HBw.out.size)⟩
          · have HD := Lib.hid (HALL.out.trans (fitB_no (t := .mk k n x s l) h h2))
            have e1 : ¬ k = 1 := by omega
            have e2 : ¬ k = 2 := by omega
            have e4 : ¬ k = 4 := by omega
            have e7 : ¬ k = 7 := by omega
            have e9 : ¬ k = 9 := by omega
            go_wp2_with fail
            all_goals
              go_ret
              exact ⟨ret_b (by rw [HD.out]; first | done | simp [h2]), HBw.out⟩
set_option maxHeartbeats 1000000 in
theorem spec_FitsPlain (t : T) (a : Option Addr) (cap B : Nat) (w : World) (hr : R w B a cap t.l) (hwf : Wf t) (hsz : T.sz t ≤ 1048576) (hB : B ≤ w.heap.size) :
    Calls Tryz.prog 20 #[.agg (cV t a cap)] w fun e w' => e = .returned (.bool (allB ownB t && allB fitB t)) ∧ Below w.heap.size w w' := by
  have HR := Lib.hid hr; clear hr
  have HWF := Lib.hid hwf; clear hwf
  have H0 := Lib.hid (below1 w (.cells (cV t a cap) 29))
  have q0 := Is.new w (cV t a cap) 29
  go_enter Tryz.func20, Tryz.ntmps20
  go_wp2_with fail
  refine (spec_ValOk t a cap B _ (HR.out.below H0.out hB) HWF.out hsz (by simp; omega)).mono ?_
  rintro e w1 ⟨rfl, hb1⟩
  have HB1 := Lib.hid (below_step H0.out hb1 (by simp))
  have p1 := q0.below hb1 (by simp)
  obtain ⟨r0, r1, r2, r3, r4⟩ := p1.cells5
  have l1 : w.heap.size < w1.heap.size := by have := hb1.size; simp at this; omega
  clear hb1
  cases hv : allB ownB t with
  | false =>
    have HV := Lib.hid hv; clear hv
    go_wp2_with fail
    go_ret
    exact ⟨ret_b (by rw [HV.out]; rfl), HB1.out⟩
  | true =>
    have HV := Lib.hid hv; clear hv
    go_wp2_with fail
    refine (spec_l17Fits t a cap B _ (HR.out.below HB1.out hB) HWF.out hsz (by omega)).mono ?_
    rintro e w2 ⟨rfl, hb2⟩
    go_wp2_with fail
    go_ret
    exact ⟨ret_b (by rw [HV.out]; rfl), HB1.out.trans (hb2.mono HB1.out.size)⟩
end Go.Proofs.YthpmfkkmhbbloaaGreatDoor
