/- Contracts and lemmas for the proofs of this seat: NamesT2. No condition beyond those stated. -/
import Derived.Test.YtfbgmhjjdgglnaaDoorRows
import Derived.WalkKit
import Derived.ProofKit
import Derived.OpenShut
import Derived.Handy
import Derived.Lib.Hide
import Derived.Lib.SmallJoins
import Derived.Deep.RegionHeld3
import Derived.Deep.AppendLies
import Derived.Deep.RegionLaw
import Derived.Deep.QuietTactic
import Derived.BigQuiet
import Derived.Test.YtfbgmhjjdgglnaaDoorBase
import Derived.Test.YtfbgmhjjdgglnaaDoorGen
import Derived.Test.YtfbgmhjjdgglnaaDoorKit
import Derived.Test.YtfbgmhjjdgglnaaDoorMark
import Derived.Test.YtfbgmhjjdgglnaaDoorApp
import Derived.Test.YtfbgmhjjdgglnaaDoorMarkV
import Derived.Test.YtfbgmhjjdgglnaaDoorLawVal
import Derived.Test.YtfbgmhjjdgglnaaDoorCopy
import Derived.Test.YtfbgmhjjdgglnaaDoorPathAt
import Derived.Test.YtfbgmhjjdgglnaaDoorPathAt2
import Derived.Test.YtfbgmhjjdgglnaaDoorSame2
import Derived.Test.YtfbgmhjjdgglnaaDoorOnce
import Derived.Test.YtfbgmhjjdgglnaaDoorNamesT
import Derived.Test.YtfbgmhjjdgglnaaDoorShelf
import Derived.Test.YtfbgmhjjdgglnaaDoorNum
import Derived.Test.YtfbgmhjjdgglnaaDoorTextF
import Derived.Test.YtfbgmhjjdgglnaaDoorValF
import Derived.Test.YtfbgmhjjdgglnaaDoorRune
import Derived.Test.YtfbgmhjjdgglnaaDoorRune2
import Derived.Test.YtfbgmhjjdgglnaaDoorValF2
import Derived.Test.YtfbgmhjjdgglnaaDoorValF3
import Derived.Test.YtfbgmhjjdgglnaaDoorOwnT
import Derived.Test.YtfbgmhjjdgglnaaDoorOwnS
import Derived.Test.YtfbgmhjjdgglnaaDoorEvery
namespace Go.Proofs.YtfbgmhjjdgglnaaDoor
open Go.ChangeShapes Go.WideShapes Go.ChangeAt Go.RowKit Go.Joins
set_option linter.unusedVariables false
set_option maxRecDepth 100000
set_option maxHeartbeats 2000000 in
theorem spec_NamesOf (t : T) (a : Option Addr) (cap B : Nat) (w : World) (hr : R w B a cap t.l) (hB : B ≤ w.heap.size) (hct : T.count t ≤ 1073741824) :
    Calls Tryd.prog 115 #[.agg (cV t a cap)] w fun e w' => ∃ a' cap', e = .returned (.slice a' (namesT t).length cap') ∧ R w' w'.heap.size a' cap' (namesT t) ∧ Below w.heap.size w w' := by
  obtain ⟨k, n, x, s, l⟩ := t
  simp only [cV, T.k, T.n, T.x, T.s, T.l] at *
  simp only [T.count] at hct
  have hlc := T.length_le_countL l
  have hlc2 : l.length ≤ 1073741824 := by omega
  obtain ⟨hl1, hl2⟩ := hr.len
  have HR := Lib.hid hr; clear hr
  have h0 := App.empty (E := TV) (n := 5) (e := 31) (nd := True) (w.alloc (Obj.cells #[Value.int IntKind.i64 k, Value.int IntKind.i64 n, Value.int IntKind.i64 x, Value.string s, Value.slice a l.length cap] 31)) (w.heap.size + 1) (w.heap.size + 2) (by simp) (by simp)
  simp only [size_alloc] at h0
  by_cases hk : k = 10
  · subst hk
    have HNm := Lib.hid (show namesT (.mk 10 n x s l) = evN l ((l.length + 1) / 2) from if_pos rfl)
    go_enter Tryd.func115, Tryd.ntmps115
    go_wp2_with fail
    generalize hW : (w.alloc (Obj.cells #[Value.int IntKind.i64 10, Value.int IntKind.i64 n, Value.int IntKind.i64 x, Value.string s, Value.slice a l.length cap] 31)).alloc (Obj.cells #[] 31) = W0 at *
    have q1 : Is W0 w.heap.size 31 #[Value.int IntKind.i64 10, Value.int IntKind.i64 n, Value.int IntKind.i64 x, Value.string s, Value.slice a l.length cap] := by subst hW; exact (Is.new _ _ _).alloc _
    have H0 := Lib.hid (show Below w.heap.size w W0 from by subst hW; exact below2 _ _ _)
    have hs0 : W0.heap.size = w.heap.size + 2 := by subst hW; simp
    clear hW
    have HC := Lib.hid hct; clear hct
    go_loopw [3, 4, 5] (fun q iv _ wr => ∃ (i p : Nat) (ar : Option Addr) (cr : Nat), i ≤ l.length + 1 ∧ iv = .int .i64 i ∧ Hid (i = 2 * p) ∧ q = .slice ar (evN l p).length cr ∧ App TV 5 31 True wr (w.heap.size + 1) wr.heap.size ar cr (evN l p) ∧ Below (w.heap.size + 1) W0 wr) (fun _ iv _ _ => l.length + 2 - (intOf iv).toNat)
    case atStart => exact ⟨0, 0, _, _, by omega, rfl, rfl, rfl, h0.more (Nat.le_refl _) (by omega), Below.refl _ _⟩
    case round =>
      obtain ⟨i, p, ar, cr, hi', rfl, HI, rfl, happ, hb⟩ := hrel
      have hbs := hb.size
      have hbox := q1.below hb (by omega)
      obtain ⟨x0, x1, x2, x3, x4⟩ := hbox.cells5
      have lbox : w.heap.size < wr.heap.size := by omega
      have HBw := Lib.hid (H0.out.trans (hb.mono (by omega)))
      have hlen := evN_len l p
      by_cases hlt : i < l.length
      · obtain ⟨b, o, a2, cap2, rfl, hbl, d0, d1, d2, d3, d4, hwf, hq⟩ := (HR.out.below HBw.out hB).get i hlt
        have hlb : b < wr.heap.size := by omega
        have hcj := T.count_get l i hlt
        have HS := Lib.hid (evN_succ l p i HI.out hlt)
        have hip : p ≤ 1073741824 := by have := HI.out; omega
        have HWF := Lib.hid hwf; clear hwf
        have HA := Lib.hid happ; clear happ
        go_wp2_with fail
        refine (spec_l6Copy l[i] a2 cap2 B _ hq HWF.out (by omega) (by have := HC.out; omega)).mono ?_
        rintro e w2 ⟨a3, cap3, rfl, hown, hb2⟩
        obtain ⟨G, g1, g2, g3⟩ := hown
        have hs2 := hb2.size
        have H2 := Lib.hid (below1 w2 (.cells (cV l[i] a3 cap3) 31))
        have HB2 := Lib.hid hb2
        have HN := Lib.hid ((((HA.out.below TV.elem hb2 (Nat.le_refl _)).below TV.elem H2.out (by omega))).below TV.elem (below1 (w2.alloc (.cells (cV l[i] a3 cap3) 31)) (.cells (cV l[i] a3 cap3) 31)) (by simp; omega))
        have HTV := Lib.hid (TV.box (w := w2.alloc (.cells (cV l[i] a3 cap3) 31)) 31 (g1.agree (fun f hf => H2.out.block f (g3 f hf).2.2.lt)) HWF.out (fun f hf => by have := (g3 f hf).2.2.lt; simp; omega))
        have HG := Lib.hid (show ∀ f ∈ G, wr.heap.size ≤ f ∧ f < ((w2.alloc (.cells (cV l[i] a3 cap3) 31)).alloc (.cells (cV l[i] a3 cap3) 31)).heap.size ∧ Unf ((w2.alloc (.cells (cV l[i] a3 cap3) 31)).alloc (.cells (cV l[i] a3 cap3) 31)) f from fun f hf => ⟨by have := (g3 f hf).1; omega, by have := (g3 f hf).2.1; simp; omega, ((g3 f hf).2.2.alloc _).alloc _⟩)
        clear hb2 g1 g3
        go_wp2_with (at_builtin; refine wpList_app1 TV.elem rfl _ _ 29 rfl (.agg zV) 64 Tryd.underlying29 info_Val rfl (w.heap.size + 1) wr.heap.size ar cr (evN l p) (by first | rfl | (rw [hlen]; rfl)) HN.out (by simp; omega) (by omega) (w2.heap.size + 1) 0 1 l[i] G (by first | rfl | simp) (by first | exact HTV.out | (have := HTV.out; simpa using this)) g2 HG.out (by rw [hlen]; unfold maxLen; omega) (by rw [hlen]; omega) ?_; intro ar2 cr2 w3 happ3 hb3 _)
        go_roundw
        case rel => exact ⟨i + 2, p + 1, ar2, cr2, by omega, by go_num, by have := HI.out; show _ = _; omega, by rw [HS.out, List.length_append, hlen]; rfl, by rw [HS.out]; exact happ3, (hb.trans ((HB2.out.trans ((H2.out.trans ((below1 _ _).mono (by simp))).mono (by omega))).mono (by omega))).trans hb3⟩
        case measure => simp [intOf]; omega
      · have hp : p = (l.length + 1) / 2 := by have := HI.out; omega
        have HP := Lib.hid hp; clear hp
        go_wp2_with fail
        go_ret
        exact ⟨ar, cr, by rw [HNm.out, ← HP.out]; rfl, by rw [HNm.out, ← HP.out]; exact R.rd.2 happ.own.read, HBw.out⟩
  · have HNm := Lib.hid (show namesT (.mk k n x s l) = [] from if_neg hk)
    have hk2 : (k == 10) = false := by simpa using hk
    have hk3 : (k != 10) = true := by simpa using hk
    go_enter Tryd.func115, Tryd.ntmps115
    go_wp2_with fail
    generalize hW : (w.alloc (Obj.cells #[Value.int IntKind.i64 k, Value.int IntKind.i64 n, Value.int IntKind.i64 x, Value.string s, Value.slice a l.length cap] 31)).alloc (Obj.cells #[] 31) = W0 at *
    have q1 : Is W0 w.heap.size 31 #[Value.int IntKind.i64 k, Value.int IntKind.i64 n, Value.int IntKind.i64 x, Value.string s, Value.slice a l.length cap] := by subst hW; exact (Is.new _ _ _).alloc _
    have H0 := Lib.hid (show Below w.heap.size w W0 from by subst hW; exact below2 _ _ _)
    have hs0 : W0.heap.size = w.heap.size + 2 := by subst hW; simp
    clear hW
    go_loopw [3, 4, 5] (fun q iv _ wr => iv = .int .i64 0 ∧ q = .slice (some ⟨w.heap.size + 1, 0, none⟩) 0 0 ∧ Below W0.heap.size W0 wr) (fun _ _ _ _ => 0)
    case atStart => exact ⟨rfl, rfl, Below.refl _ _⟩
    case round =>
      obtain ⟨rfl, rfl, hb⟩ := hrel
      have hbs := hb.size
      have hbox := q1.below hb (by omega)
      obtain ⟨x0, x1, x2, x3, x4⟩ := hbox.cells5
      have lbox : w.heap.size < wr.heap.size := by omega
      go_wp2_with fail
      all_goals
        go_ret
        exact ⟨_, _, by rw [HNm.out]; rfl, by rw [HNm.out]; exact R.rd.2 ⟨[], Sl.nil _ _ _ (by unfold maxLen; omega), by simp⟩, H0.out.trans (hb.mono (by omega))⟩
set_option maxHeartbeats 1000000 in
theorem impl_OnceEach (t : T) (a : Option Addr) (cap B : Nat) (w : World) (hr : R w B a cap t.l) (hB : B ≤ w.heap.size) (hlc : t.l.length ≤ 1073741824) :
    Calls Tryd.prog 86 #[.agg (cV t a cap)] w fun e w' => e = .returned (.bool (onceB t)) ∧ Below w.heap.size w w' := by
  have hmf : ∀ (fn : Fn) (first cap : Array Value) (w : World), (Instr.makeFunc fn first cap).run Tryd.prog w = .ok (.func fn first cap) w := fun _ _ _ _ => rfl
  obtain ⟨ns, hns⟩ : ∃ ns, namesT t = ns := ⟨_, rfl⟩
  have HNS := Lib.hid hns; clear hns
  have HR := Lib.hid hr; clear hr
  go_enter Tryd.func86, Tryd.ntmps86
  go_wp2_with fail
  refine (impl_names t a cap B _ (HR.out.below (below1 _ _) hB) (by simp; omega) hlc).mono ?_
  rintro e w1 ⟨a1, c1, rfl, hr1, hb1⟩
  rw [HNS.out] at hr1 ⊢
  have HB1 := Lib.hid (below_step (below1 w _) hb1 (by simp)); clear hb1
  have hs1 := HB1.out.size
  obtain ⟨hn1, hn2⟩ := hr1.len
  have HR1 := Lib.hid hr1; clear hr1
  have HOB := Lib.hid (show onceB t = onceN ns ns.length from by unfold onceB; rw [HNS.out])
  go_wp2_with fail
  go_loopw [10, 4, 5] (fun iv _ _ wr => ∃ (j : Nat), j ≤ ns.length ∧ iv = .int .i64 j ∧ Hid (onceN ns j = true) ∧ Below w1.heap.size w1 wr) (fun iv _ _ _ => ns.length - (intOf iv).toNat)
  case atStart => exact ⟨0, Nat.zero_le _, rfl, rfl, Below.refl _ _⟩
  case round =>
    obtain ⟨j, hj, rfl, HJ, hb⟩ := hrel
    have hbs := hb.size
    by_cases hlt : j < ns.length
    · obtain ⟨b, o, a2, cap2, rfl, hbl, d0, d1, d2, d3, d4, hwf, hq⟩ := (HR1.out.below hb (Nat.le_refl _)).get j hlt
      have hlb : b < wr.heap.size := by omega
      have H5 := Lib.hid (below1 wr (.cells (cV ns[j] a2 cap2) 31))
      have q5 := Is.new wr (cV ns[j] a2 cap2) 31
      have HQ := Lib.hid hq; clear hq
      have HTk := Lib.hid ((HR1.out.below hb (Nat.le_refl _)).take j)
      have htl : (ns.take j).length = j := by rw [List.length_take]; omega
      have HS := Lib.hid (onceN_succ ns j hlt)
      have hjc : j ≤ c1 := by omega
      go_wp2_with fail
      have hs5 : (wr.alloc (.cells (cV ns[j] a2 cap2) 31)).heap.size = wr.heap.size + 1 := by simp
      generalize wr.alloc (.cells (cV ns[j] a2 cap2) 31) = W5 at *
      have H1 : ∀ u ∈ ns.take j, ∀ (a : Option Addr) (cap : Nat) (w' : World), Below W5.heap.size W5 w' → R w' w1.heap.size a cap u.l → Wf u → Calls Tryd.prog 120 #[.agg (cV u a cap), .pointer (some ⟨wr.heap.size, 0, none⟩)] w' fun e v => e = .returned (.bool (sameT u ns[j])) ∧ Below w'.heap.size w' v := by
        intro u hu a3 cap3 w' hb3 hr3 hwf3
        have hs3 := hb3.size
        have t2 := q5.below hb3 (by omega)
        obtain ⟨c0, c1', c2, c3, c4⟩ := t2.cells5
        have l2 : wr.heap.size < w'.heap.size := by omega
        have HQ3 := Lib.hid (HQ.out.below (H5.out.trans (hb3.mono (by omega))) (by omega))
        have HR3 := Lib.hid hr3; clear hr3 hwf3 hu hb3 d0 d1 d2 d3 d4 q5
        go_enter Tryd.func120, Tryd.ntmps120
        go_wp2_with fail
        refine (impl_SameVal u ns[j] a3 a2 cap3 cap2 w1.heap.size _ (HR3.out.below (below1 _ _) (by omega)) (HQ3.out.below (below1 _ _) (by omega)) (by simp; omega)).mono ?_
        rintro e w5 ⟨rfl, hb5⟩
        go_wp2_with fail
        go_ret
        exact ⟨rfl, below_step (below1 _ _) hb5 (by simp)⟩
      have cC := has_OnceEach_1 (fun u => sameT u ns[j]) wr.heap.size (ns.take j) (some ⟨b, o, none⟩) c1 w1.heap.size W5 (HTk.out.below H5.out (by omega)) (by omega) H1
      rw [htl] at cC
      have CC := Lib.hid cC; clear cC H1
      cases hv : (ns.take j).any fun u => sameT u ns[j] with
      | true =>
        have HD := Lib.hid (show onceB t = false from HOB.out.trans (onceN_false ns (j + 1) _ (by omega) (by rw [HS.out, hv, HJ.out]; rfl)))
        rw [hv] at CC
        clear hv
        first | (refine CC.out.mono ?_) | (go_wp2_with fail; refine CC.out.mono ?_)
        rintro e w6 ⟨rfl, hb6⟩
        go_wp2_with fail
        go_ret
        exact ⟨ret_b (by rw [HD.out]), (HB1.out.trans (hb.mono (by omega))).trans ((H5.out.trans (hb6.mono (by omega))).mono (by omega))⟩
      | false =>
        have HD := Lib.hid (show onceN ns (j + 1) = true from by rw [HS.out, hv, HJ.out]; rfl)
        rw [hv] at CC
        clear hv
        first | (refine CC.out.mono ?_) | (go_wp2_with fail; refine CC.out.mono ?_)
        rintro e w6 ⟨rfl, hb6⟩
        go_wp2_with fail
        go_roundw
        case rel => exact ⟨j + 1, by omega, by go_num, HD.out, hb.trans ((H5.out.trans (hb6.mono (by omega))).mono hbs)⟩
        case measure => simp [intOf]; omega
    · have hjj : ns.length = j := by omega
      have HD := Lib.hid (show onceB t = true from by rw [HOB.out, hjj]; exact HJ.out); clear hjj
      go_wp2_with fail
      go_ret
      exact ⟨ret_b (by rw [HD.out]), HB1.out.trans (hb.mono (by omega))⟩
end Go.Proofs.YtfbgmhjjdgglnaaDoor
