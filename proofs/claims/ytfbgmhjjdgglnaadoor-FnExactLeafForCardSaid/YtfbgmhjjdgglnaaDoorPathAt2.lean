/- Contracts and lemmas for the proofs of this seat: PathAt2. No condition beyond those stated. -/
import Derived.Test.YtfbgmhjjdgglnaaDoorRows
import Derived.WalkKit
import Derived.ProofKit
import Derived.OpenShut
import Derived.Handy
import Derived.Lib.Hide
import Derived.Lib.SmallJoins
import Derived.Deep.RegionHeld3
import Derived.Deep.AppendLies
import Derived.Deep.QuietTactic
import Derived.BigQuiet
import Derived.Test.YtfbgmhjjdgglnaaDoorBase
import Derived.Test.YtfbgmhjjdgglnaaDoorGen
import Derived.Test.YtfbgmhjjdgglnaaDoorKit
import Derived.Test.YtfbgmhjjdgglnaaDoorMark
import Derived.Test.YtfbgmhjjdgglnaaDoorApp
import Derived.Test.YtfbgmhjjdgglnaaDoorMarkV
import Derived.Test.YtfbgmhjjdgglnaaDoorLawVal
import Derived.Test.YtfbgmhjjdgglnaaDoorCopy
import Derived.Test.YtfbgmhjjdgglnaaDoorPathAt
namespace Go.Proofs.YtfbgmhjjdgglnaaDoor
open Go.ChangeShapes Go.WideShapes Go.ChangeAt Go.RowKit Go.Joins
set_option linter.unusedVariables false
set_option maxRecDepth 100000
def elT (t : T) (s : St) : T := if okI t s then t.l.getD (rawI t s).toNat zT else zT
theorem okI_nat {t : T} {s : St} (h : okI t s) : ∃ i : Nat, i < t.l.length ∧ rawI t s = i ∧ ∀ hi : i < t.l.length, elT t s = t.l[i] := by
  have h0 := rawI_nonneg h
  refine ⟨(rawI t s).toNat, by have := h.2.2; omega, by omega, fun hi => ?_⟩
  unfold elT; rw [if_pos h, List.getD_eq_getElem?_getD, List.getElem?_eq_getElem hi]; rfl
theorem elT_no {t : T} {s : St} (h : ¬ okI t s) : elT t s = zT := if_neg h
theorem zT_own (w : World) (lo hi : Nat) : Own w lo hi none 0 zT.l := Own.nil _ _ _ _ _ (by simp [maxLen])
theorem zT_rd (w : World) (B : Nat) : R w B none 0 zT.l := R.nil _ _
theorem zT_wf : Wf zT := by
  have h : (⟨#[]⟩ : ByteArray).size = 0 := rfl
  refine ⟨?_, ?_, ?_, ?_⟩ <;> simp [I64, zT, T.k, T.n, T.x, T.s, maxLen, h]
theorem Is.drew {w : World} {g : Nat} {e : TypeId} {cs : Array Value} (h : Is w g e cs) : Is w.drew g e cs := h
theorem Is.set5 {w : World} {g : Nat} {e : TypeId} {z0 z1 z2 z3 z4 : Value} (h : Is w g e #[z0, z1, z2, z3, z4]) (v0 v1 v2 v3 v4 : Value) :
    Is (((((w.setCell ⟨g, 0, none⟩ v0).setCell ⟨g, 1, none⟩ v1).setCell ⟨g, 2, none⟩ v2).setCell ⟨g, 3, none⟩ v3).setCell ⟨g, 4, none⟩ v4) g e #[v0, v1, v2, v3, v4] := ((((h.set 0 v0).set 1 v1).set 2 v2).set 3 v3).set 4 v4
theorem elT_wf {w : World} {B cap : Nat} {a : Option Addr} {x : T} (h : R w B a cap x.l) (s : St) : Wf (elT x s) := by
  by_cases hok : okI x s
  · obtain ⟨i, hil, _, hel⟩ := okI_nat hok
    rw [hel hil]
    obtain ⟨_, _, _, _, _, _, _, _, _, _, _, hwf, _⟩ := h.get i hil
    exact hwf
  · rw [elT_no hok]; exact zT_wf
theorem elT_count {x : T} (s : St) (hc : T.count x ≤ 1073741824) : T.count (elT x s) ≤ 1073741824 := by
  by_cases hok : okI x s
  · obtain ⟨i, hil, _, hel⟩ := okI_nat hok
    rw [hel hil]
    have := T.count_get x.l i hil
    cases x; simp only [T.count, T.l] at *; omega
  · rw [elT_no hok]; simp [zT, T.count, T.countL]
theorem atT_step {x : T} {p : List St} {j : Nat} (hj : j < p.length) (h : okI x p[j]) : atT x (p.drop j) = atT (elT x p[j]) (p.drop (j + 1)) := by
  rw [atT_drop_ok hj h]; unfold elT; rw [if_pos h]
theorem ret_t {v : Value} {x y : Bool} (h : x = y) : Ending.returned (.tuple #[v, .bool x]) = .returned (.tuple #[v, .bool y]) := by rw [h]
set_option maxHeartbeats 1000000 in
theorem spec_StepVal (t : T) (s : St) (a : Option Addr) (cap B : Nat) (w : World) (hr : R w B a cap t.l) (hwf : Wf t) (hi : I64 s.1) (hct : T.count t ≤ 1073741824) (hB : B ≤ w.heap.size) :
    Calls Tryd.prog 68 #[.agg (cV t a cap), .agg #[.int .i64 s.1, .bool s.2]] w fun e w' => ∃ a' cap', e = .returned (.tuple #[.agg (cV (elT t s) a' cap'), .bool (decide (okI t s))]) ∧ Own w' w.heap.size w'.heap.size a' cap' (elT t s).l ∧ Below w.heap.size w w' := by
  obtain ⟨hl1, hl2⟩ := hr.len
  have hlc : t.l.length ≤ 1073741824 := by have := T.length_le_countL t.l; cases t; simp only [T.count, T.l] at *; omega
  have HR := Lib.hid hr; clear hr
  go_enter Tryd.func68, Tryd.ntmps68
  go_wp2_with fail
  generalize hW : ((w.alloc (Obj.cells (cV t a cap) 31)).alloc (Obj.cells #[.int .i64 s.1, .bool s.2] 87)).alloc (Obj.cells zV 31) = W0
  have q1 : Is W0 w.heap.size 31 (cV t a cap) := by subst hW; exact ((Is.new _ _ _).alloc _).alloc _
  have q2 : Is W0 (w.heap.size + 1 + 1) 31 zV := by subst hW; exact Is.new3 _ _ _ _ _
  have H0 := Lib.hid (show Below w.heap.size w W0 from by subst hW; exact below3 _ _ _ _)
  have hs0 : W0.heap.size = w.heap.size + 3 := by subst hW; simp
  clear hW
  refine (spec_l8Place t s a cap W0 hi hlc).mono ?_
  rintro e w2 ⟨rfl, hb2⟩
  have hs2 := hb2.size
  have H2 := Lib.hid hb2
  have p1 := q1.below hb2 (by omega)
  have p2 := q2.below hb2 (by omega)
  have f2 := fun i => p2.frozen i
  obtain ⟨r0, r1, r2, r3, r4⟩ := p1.cells5
  obtain ⟨o0, o1, o2, o3, o4⟩ := p2.cells5
  have l1 : w.heap.size < w2.heap.size := by omega
  have l2 : w.heap.size + 1 + 1 < w2.heap.size := by omega
  clear hb2
  by_cases hok : okI t s
  · obtain ⟨i, hil, hie, hel⟩ := okI_nat hok
    rw [idxT_ok hok, hie]
    have HEL := Lib.hid (hel hil)
    have HOK := Lib.hid (show decide (okI t s) = true from decide_eq_true hok)
    clear hok hie hel
    obtain ⟨b, o, a2, cap2, ha, hbl, d0, d1, d2, d3, d4, hwf2, hq⟩ := ((HR.out.below H0.out hB).below H2.out (by omega)).get i hil
    have hcj := T.count_get t.l i hil
    have hctl : T.countL t.l ≤ 1073741824 := by cases t; simp only [T.count, T.l] at *; omega
    subst ha
    have HWF := Lib.hid hwf2; clear hwf2
    go_wp2_with fail
    refine (spec_l6Copy t.l[i] a2 cap2 B w2 hq HWF.out (by omega) (by omega)).mono ?_
    rintro e w3 ⟨a3, cap3, rfl, hown, hb3⟩
    have p3 := p2.below hb3 (by omega)
    have f3 := fun i => p3.frozen i
    obtain ⟨u0, u1, u2, u3, u4⟩ := p3.cells5
    have hs3 := hb3.size
    have H3 := Lib.hid hb3; clear hb3
    go_wp2_with fail
    obtain ⟨e0, e1, e2, e3, e4, hbel, hold, hsz⟩ := out5 p3.blk (.int .i64 t.l[i].k) (.int .i64 t.l[i].n) (.int .i64 t.l[i].x) (.string t.l[i].s) (.slice a3 t.l[i].l.length cap3) w.heap.size (by omega)
    refine bodyPost_ret (v := .tuple #[.agg (cV t.l[i] a3 cap3), .bool true]) (by simp [results, Tryd.results68, go_sem, e0, e1, e2, e3, e4]) rfl ⟨a3, cap3, by rw [HEL.out, HOK.out], ?_, ?_⟩
    · rw [hsz, HEL.out]
      exact (hown.agree (fun f h1 h2 => hold f (by omega))).more (by omega) (Nat.le_refl _)
    · exact ((H0.out.trans (H2.out.mono (by omega))).trans (H3.out.mono (by omega))).trans hbel
  · rw [idxT_no hok]
    have HEL := Lib.hid (elT_no hok)
    have HOK := Lib.hid (show decide (okI t s) = false from decide_eq_false hok)
    clear hok
    go_wp2_with fail
    obtain ⟨e0, e1, e2, e3, e4, hbel, hold, hsz⟩ := out5 p2.blk (.int .i64 0) (.int .i64 0) (.int .i64 0) (.string ⟨#[]⟩) (.slice none 0 0) w.heap.size (by omega)
    refine bodyPost_ret (v := .tuple #[.agg zV, .bool false]) (by simp [results, Tryd.results68, go_sem, e0, e1, e2, e3, e4]) rfl ⟨none, 0, by rw [HEL.out, HOK.out]; rfl, by rw [HEL.out]; exact zT_own _ _ _, ?_⟩
    exact (H0.out.trans (H2.out.mono (by omega))).trans hbel
theorem count_getD (t : T) (i : Nat) (h : i < t.l.length) (hc : T.count t ≤ 1073741824) : T.count t.l[i] ≤ 1073741824 := by
  have := T.count_get t.l i h
  cases t; simp only [T.count, T.l] at *; omega
end Go.Proofs.YtfbgmhjjdgglnaaDoor
