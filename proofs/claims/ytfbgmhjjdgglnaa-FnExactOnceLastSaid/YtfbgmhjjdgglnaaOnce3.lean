/- Contracts and lemmas for the proofs of this seat: Once3. No condition beyond those stated. -/
import Derived.Test.YtfbgmhjjdgglnaaRows
import Derived.WalkKit
import Derived.ProofKit
import Derived.OpenShut
import Derived.Handy
import Derived.Lib.Hide
import Derived.Lib.SmallJoins
import Derived.Deep.RegionHeld3
import Derived.Deep.AppendLies
import Derived.Deep.RegionLaw
import Derived.Deep.QuietTactic
import Derived.BigQuiet
import Derived.Test.YtfbgmhjjdgglnaaBase
import Derived.Test.YtfbgmhjjdgglnaaGen
import Derived.Test.YtfbgmhjjdgglnaaKit
import Derived.Test.YtfbgmhjjdgglnaaMark
import Derived.Test.YtfbgmhjjdgglnaaApp
import Derived.Test.YtfbgmhjjdgglnaaMarkV
import Derived.Test.YtfbgmhjjdgglnaaLawVal
import Derived.Test.YtfbgmhjjdgglnaaCopy
import Derived.Test.YtfbgmhjjdgglnaaPathAt
import Derived.Test.YtfbgmhjjdgglnaaPathAt2
import Derived.Test.YtfbgmhjjdgglnaaSame2
import Derived.Test.YtfbgmhjjdgglnaaOnce
import Derived.Test.YtfbgmhjjdgglnaaOnce1
import Derived.Test.YtfbgmhjjdgglnaaOnce2
namespace Go.Proofs.Ytfbgmhjjdgglnaa
open Go.ChangeShapes Go.WideShapes Go.ChangeAt Go.RowKit Go.Joins
set_option linter.unusedVariables false
set_option maxRecDepth 100000
theorem keepN_count (l : List T) (p : Nat) : 2 * p ≤ l.length → T.countL (keepN l p) ≤ T.countL (l.take (2 * p)) := by
  induction p with
  | zero => intro _; simp [keepN, T.countL]
  | succ p ih =>
    intro h
    have h1 := T.countL_take_succ l (2 * p) (by omega)
    have h2 := T.countL_take_succ l (2 * p + 1) (by omega)
    rw [show 2 * (p + 1) = 2 * p + 1 + 1 from by omega, h2, h1]
    have := ih (by omega)
    cases hn : hasNm l[2 * p] (l.drop (2 * p + 2)) with
    | true => rw [keepN_succ_no l p (2 * p) rfl (by omega) hn]; omega
    | false =>
      rw [keepN_succ_yes l p (2 * p) rfl (by omega) (by omega) hn, T.countL_append]
      simp only [T.countL]; omega
theorem lastP_count (l : List T) : T.countL (lastP l) ≤ T.countL l := Nat.le_trans (keepN_count l _ (by omega)) (T.countL_take_le l _)
theorem onceT_count : ∀ t : T, T.count (onceT t) ≤ T.count t := by
  intro t
  induction t using T.ind with
  | h k n x s l ih =>
    have key : ∀ r : List T, (∀ u ∈ r, u ∈ l) → T.countL (onceTs r) ≤ T.countL r := by
      intro r
      induction r with
      | nil => intro _; simp [onceTs, T.countL]
      | cons u r ihr =>
        intro hm
        simp only [onceTs, T.countL]
        have := ih u (hm u (by simp))
        have := ihr (fun v hv => hm v (by simp [hv]))
        omega
    have h1 := key l (fun _ h => h)
    rw [onceT]
    simp only [T.count]
    split
    · have := lastP_count (onceTs l); omega
    · omega
theorem onceTs_count (l : List T) : T.countL (onceTs l) ≤ T.countL l := by
  induction l with
  | nil => simp [onceTs, T.countL]
  | cons u r ih => simp only [onceTs, T.countL]; have := onceT_count u; omega
theorem onceT_eq (k n x : Int) (s : ByteArray) (l : List T) : onceT (.mk k n x s l) = lastT (.mk k n x s (onceTs l)) := by
  rw [onceT]
  unfold lastT
  simp only [T.k_mk, T.n_mk, T.x_mk, T.s_mk, T.l_mk, onceTs_length]
  split <;> rfl
theorem onceT_wf {t : T} (h : Wf t) : Wf (onceT t) := by
  cases t; rw [onceT]; exact h
theorem onceT_sz (t : T) : T.countL (onceT t).l ≤ T.sz t := by
  have h1 := onceT_count t
  have h2 := T.countL_le_szL t
  have h3 : T.count (onceT t) = T.countL (onceT t).l + 1 := by cases onceT t; simp only [T.count, T.l]
  omega
set_option maxHeartbeats 1000000 in
theorem impl_OnceLast : ∀ t : T, ∀ (a : Option Addr) (cap B : Nat) (w : World), R w B a cap t.l → Wf t → T.count t ≤ 1073741824 → B ≤ w.heap.size →
    Calls Try.prog 39 #[.agg (cV t a cap)] w fun e w' => ∃ a' cap', e = .returned (.agg (cV (onceT t) a' cap')) ∧ Own w' w.heap.size w'.heap.size a' cap' (onceT t).l ∧ Below w.heap.size w w' := by
  intro t
  induction t using T.ind with
  | h k n x s l ih =>
    intro a cap B w hr hwf hct hB
    have IH := Lib.hid ih; clear ih
    have HOE := Lib.hid (onceT_eq k n x s l)
    simp only [cV, T.k_mk, T.n_mk, T.x_mk, T.s_mk, T.l_mk] at hr ⊢
    simp only [T.count] at hct
    obtain ⟨hl1, hl2⟩ := hr.len
    have hlc := T.length_le_countL l
    have hoc := onceTs_count l
    have HR := Lib.hid hr; clear hr
    have HWF := Lib.hid hwf; clear hwf
    go_enter Try.func39, Try.ntmps39
    go_wp2_with fail
    generalize hW : ((w.alloc (Obj.cells #[Value.int IntKind.i64 k, Value.int IntKind.i64 n, Value.int IntKind.i64 x, Value.string s, Value.slice a l.length cap] 32)).alloc (Obj.cells zV 32)).alloc (Obj.cells #[] 32) = W0
    have q1 : Is W0 w.heap.size 32 #[Value.int IntKind.i64 k, Value.int IntKind.i64 n, Value.int IntKind.i64 x, Value.string s, Value.slice a l.length cap] := by subst hW; exact ((Is.new _ _ _).alloc _).alloc _
    have q2 : Is W0 (w.heap.size + 1) 32 zV := by subst hW; exact (Is.new2 _ _ _ _).alloc _
    have H0 := Lib.hid (show Below w.heap.size w W0 from by subst hW; exact below3 _ _ _ _)
    have hs0 : W0.heap.size = w.heap.size + 3 := by subst hW; simp
    have happ0 : App TV 5 32 True W0 (w.heap.size + 2) W0.heap.size (some ⟨w.heap.size + 1 + 1, 0, none⟩) 0 [] := by
      subst hW
      have := App.empty (E := TV) (n := 5) (e := 32) (nd := True) ((w.alloc (Obj.cells #[Value.int IntKind.i64 k, Value.int IntKind.i64 n, Value.int IntKind.i64 x, Value.string s, Value.slice a l.length cap] 32)).alloc (Obj.cells zV 32)) (w.heap.size + 2) (w.heap.size + 3) (by simp) (by simp)
      simp only [size_alloc] at this ⊢
      exact this.more (Nat.le_refl _) (by omega)
    clear hW
    have HC := Lib.hid hct; clear hct
    go_loopw [3, 10, 5] (fun q i _ wr => ∃ (j : Nat) (ar : Option Addr) (cr : Nat), j ≤ l.length ∧ i = .int .i64 j ∧ q = .slice ar (onceTs (l.take j)).length cr ∧ App TV 5 32 True wr (w.heap.size + 2) wr.heap.size ar cr (onceTs (l.take j)) ∧ Below (w.heap.size + 2) W0 wr) (fun _ i _ _ => l.length - (intOf i).toNat)
    case atStart => exact ⟨0, _, _, Nat.zero_le _, rfl, rfl, happ0, Below.refl _ _⟩
    case round =>
      obtain ⟨j, ar, cr, hj, rfl, rfl, happ, hb⟩ := hrel
      have hbs := hb.size
      have hlen : (onceTs (l.take j)).length = j := by rw [onceTs_length, List.length_take]; omega
      by_cases hlt : j < l.length
      · obtain ⟨b, o, a2, cap2, rfl, hbl, d0, d1, d2, d3, d4, hwf, hq⟩ := ((HR.out.below H0.out hB).below hb (by omega)).get j hlt
        have hcj := T.count_get l j hlt
        have hlb : b < wr.heap.size := by omega
        have H1 := Lib.hid (below1 wr (.cells (cV l[j] a2 cap2) 32))
        have HWF := Lib.hid hwf; clear hwf
        have HA := Lib.hid happ; clear happ
        have HTS := Lib.hid (onceTs_take_succ l j hlt)
        rw [hlen]
        go_wp2_with fail
        refine (IH.out l[j] (List.getElem_mem hlt) a2 cap2 B _ (hq.below H1.out (by omega)) HWF.out (by have := HC.out; omega) (by simp; omega)).mono ?_
        rintro e w2 ⟨a3, cap3, rfl, hown, hb2⟩
        obtain ⟨G, g1, g2, g3⟩ := hown
        have hs2 := hb2.size
        have hs3 : wr.heap.size < w2.heap.size := by simp at hs2; omega
        have HB2 := Lib.hid ((H1.out.trans (hb2.mono (by simp))))
        have HN := Lib.hid ((HA.out.below TV.elem HB2.out (Nat.le_refl _)).below TV.elem (below1 w2 (.cells (cV (onceT l[j]) a3 cap3) 32)) (by omega))
        have HTV := Lib.hid (TV.box 32 g1 (onceT_wf HWF.out) (fun f hf => (g3 f hf).2.2.lt))
        have HG := Lib.hid (show ∀ f ∈ G, wr.heap.size ≤ f ∧ f < (w2.alloc (.cells (cV (onceT l[j]) a3 cap3) 32)).heap.size ∧ Unf (w2.alloc (.cells (cV (onceT l[j]) a3 cap3) 32)) f from fun f hf => ⟨by have := (g3 f hf).1; simp at this; omega, by have := (g3 f hf).2.1; simp; omega, (g3 f hf).2.2.alloc _⟩)
        clear hb2 hs2 g1 g3
        go_wp2_with (at_builtin; refine wpList_app1 TV.elem rfl _ _ 30 rfl (.agg zV) 64 Try.underlying30 info_Val rfl (w.heap.size + 2) wr.heap.size ar cr (onceTs (l.take j)) (by rw [hlen]; rfl) HN.out (by simp; omega) (by omega) w2.heap.size 0 1 (onceT l[j]) G rfl HTV.out g2 HG.out (by rw [hlen]; unfold maxLen; omega) (by rw [hlen]; have := HC.out; omega) ?_; intro ar2 cr2 w3 happ3 hb3 _)
        go_roundw
        case rel => exact ⟨j + 1, ar2, cr2, by omega, by go_num, by rw [HTS.out]; simp [hlen], by rw [HTS.out]; exact happ3, (hb.trans ((HB2.out.trans ((below1 w2 _).mono (by omega))).mono (by omega))).trans hb3⟩
        case measure => simp [intOf]; omega
      · have hjj : l.length = j := by omega
        have HJ := Lib.hid (show l.take j = l from by rw [← hjj, List.take_length])
        have p1 := q1.below hb (by omega)
        have p2 := q2.below hb (by omega)
        have f1 := fun i => p1.frozen i
        obtain ⟨r0, r1, r2, r3, r4⟩ := p1.cells5
        have hlb : w.heap.size < wr.heap.size := by omega
        have hlb2 : w.heap.size + 1 < wr.heap.size := by omega
        rw [HJ.out] at happ
        rw [HJ.out]
        have HON := Lib.hid (Own.ow.2 happ.own); clear happ
        clear hjj
        have HSet := Lib.hid (below1s wr w.heap.size 4 (.slice ar (onceTs l).length cr))
        have HON2 := Lib.hid (HON.out.agree (w' := wr.setCell ⟨w.heap.size, 4, none⟩ (.slice ar (onceTs l).length cr)) (fun f h1 _ => heap_miss _ _ _ _ (by omega) _))
        have p2s := p2.miss w.heap.size 4 (by omega) (.slice ar (onceTs l).length cr)
        go_wp2_with fail
        refine (impl_lastPairs (.mk k n x s (onceTs l)) ar cr (w.heap.size + 2) wr.heap.size _ HON2.out HWF.out (by rw [size_set]; exact Nat.le_refl _) (by omega) (by simp only [T.count]; have := HC.out; omega)).mono ?_
        rintro e w3 ⟨a3, cap3, rfl, hown, hb3⟩
        have p3 := p2s.below hb3 (by rw [size_set]; omega)
        have f3 := fun i => p3.frozen i
        obtain ⟨o0, o1, o2, o3, o4⟩ := p3.cells5
        have H3 := Lib.hid (HSet.out.trans (hb3.mono (by rw [size_set]; omega)))
        have hs3 := H3.out.size
        clear hb3
        rw [← HOE.out] at hown ⊢
        obtain ⟨ot, hot⟩ : ∃ u, onceT (T.mk k n x s l) = u := ⟨_, rfl⟩
        rw [hot] at hown ⊢
        have HOT := Lib.hid hot; clear hot
        go_wp2_with fail
        obtain ⟨e0, e1, e2, e3, e4, hbel, hold, hsz⟩ := out5 p3.blk (.int .i64 ot.k) (.int .i64 ot.n) (.int .i64 ot.x) (.string ot.s) (.slice a3 ot.l.length cap3) w.heap.size (by omega)
        refine bodyPost_ret (v := .agg (cV ot a3 cap3)) (by simp [results, Try.results39, go_sem, e0, e1, e2, e3, e4]) rfl ⟨a3, cap3, by rw [HOT.out], ?_, ?_⟩
        · rw [hsz, HOT.out]
          exact (hown.agree (fun f h1 h2 => hold f (by omega))).more (by omega) (Nat.le_refl _)
        · exact ((H0.out.trans (hb.mono (by omega))).trans H3.out).trans hbel
end Go.Proofs.Ytfbgmhjjdgglnaa
