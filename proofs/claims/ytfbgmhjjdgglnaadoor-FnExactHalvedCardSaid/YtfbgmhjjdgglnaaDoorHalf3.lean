/- Contracts and lemmas for the proofs of this seat: Half3. No condition beyond those stated. -/
import Derived.Test.YtfbgmhjjdgglnaaDoorRows
import Derived.WalkKit
import Derived.ProofKit
import Derived.OpenShut
import Derived.Handy
import Derived.Lib.Hide
import Derived.Lib.SmallJoins
import Derived.Laws.BytesArg
import Derived.Lib.ItoaNum
import Derived.Lib.ItoaLen
import Derived.Lib.AppendIntMem
import Derived.Deep.RegionHeld3
import Derived.Test.YtfbgmhjjdgglnaaDoorBase
import Derived.Test.YtfbgmhjjdgglnaaDoorGen
import Derived.Test.YtfbgmhjjdgglnaaDoorKit
import Derived.Test.YtfbgmhjjdgglnaaDoorMark
import Derived.Test.YtfbgmhjjdgglnaaDoorApp
import Derived.Test.YtfbgmhjjdgglnaaDoorMarkV
import Derived.Test.YtfbgmhjjdgglnaaDoorLawVal
import Derived.Test.YtfbgmhjjdgglnaaDoorCopy
import Derived.Test.YtfbgmhjjdgglnaaDoorPathAt
import Derived.Test.YtfbgmhjjdgglnaaDoorPathAt2
import Derived.Test.YtfbgmhjjdgglnaaDoorShelf
import Derived.Test.YtfbgmhjjdgglnaaDoorNum
import Derived.Test.YtfbgmhjjdgglnaaDoorTextF
import Derived.Test.YtfbgmhjjdgglnaaDoorValF
import Derived.Test.YtfbgmhjjdgglnaaDoorValF2
import Derived.Test.YtfbgmhjjdgglnaaDoorValF3
import Derived.Test.YtfbgmhjjdgglnaaDoorDecF
import Derived.Test.YtfbgmhjjdgglnaaDoorDecF2
import Derived.Test.YtfbgmhjjdgglnaaDoorFltD
import Derived.Test.YtfbgmhjjdgglnaaDoorNearP
import Derived.Test.YtfbgmhjjdgglnaaDoorFltN
import Derived.Test.YtfbgmhjjdgglnaaDoorDiv
import Derived.Test.YtfbgmhjjdgglnaaDoorDiv2
import Derived.Test.YtfbgmhjjdgglnaaDoorNear1
import Derived.Test.YtfbgmhjjdgglnaaDoorNear3
import Derived.Test.YtfbgmhjjdgglnaaDoorNear2
import Derived.Test.YtfbgmhjjdgglnaaDoorNear4
import Derived.Test.YtfbgmhjjdgglnaaDoorHalf1
import Derived.Test.YtfbgmhjjdgglnaaDoorHalf2
namespace Go.Proofs.YtfbgmhjjdgglnaaDoor
open Go.ChangeShapes Go.WideShapes Go.ChangeAt Go.RowKit Go.Joins
set_option linter.unusedVariables false
set_option maxRecDepth 100000
set_option maxHeartbeats 4000000 in
theorem spec_Halved : ∀ t : T, ∀ (a : Option Addr) (cap B : Nat) (w : World), R w B a cap t.l → Wf t → B ≤ w.heap.size → T.count t ≤ 1073741824 →
    Calls Tryd.prog 18 #[.agg (cV t a cap)] w fun e w' => ((halfT t = none ∧ e = .returned (.tuple #[.agg zV, .bool false])) ∨ ∃ t', halfT t = some t' ∧ ∃ a' cap', e = .returned (.tuple #[.agg (cV t' a' cap'), .bool true]) ∧ Own w' w.heap.size w'.heap.size a' cap' t'.l) ∧ Below w.heap.size w w' := by
  intro t
  induction t using T.ind with
  | h k n x s l ih =>
    intro a cap B w hr hwf hB hct
    have IH := Lib.hid ih; clear ih
    obtain ⟨hwk, hwn, hwx, hws⟩ := hwf
    simp only [cV, T.k, T.n, T.x, T.s, T.l] at hr hwk hwn hwx hws ⊢
    simp only [T.count] at hct
    obtain ⟨hl1, hl2⟩ := hr.len
    have hlc := T.length_le_countL l
    have HR := Lib.hid hr; clear hr
    have HN := Lib.hid hwn
    have HX := Lib.hid hwx
    clear hwk hwn hwx hws
    by_cases hkk : k = 3 ∨ k = 6
    · obtain ⟨RR, hRR⟩ : ∃ r, nearD n x = r := ⟨_, rfl⟩
      have HRR := Lib.hid hRR
      have HH := Lib.hid (show halfT (.mk k n x s l) = if RR.2 = true then some (.mk 4 RR.1.1 RR.1.2 ⟨#[]⟩ []) else none from by rw [halfT, if_pos hkk, hRR])
      clear hRR
      have hk2 : (k = 3) ∨ (¬ k = 3 ∧ k = 6) := by omega
      clear hkk
      rcases hk2 with hk2 | ⟨hk2, hk3⟩
      · subst hk2
        go_enter Tryd.func18, Tryd.ntmps18
        go_wp2_with fail
        generalize hW : (w.alloc (Obj.cells #[Value.int IntKind.i64 3, Value.int IntKind.i64 n, Value.int IntKind.i64 x, Value.string s, Value.slice a l.length cap] 31)).alloc (Obj.cells zV 31) = W0
        have q2 : Is W0 (w.heap.size + 1) 31 zV := by subst hW; exact Is.new2 _ _ _ _
        have H0 := Lib.hid (show Below w.heap.size w W0 from by subst hW; exact below2 _ _ _)
        have hs0 : W0.heap.size = w.heap.size + 2 := by subst hW; simp
        clear hW
        refine (spec_NearFlt n x W0 HN.out HX.out).mono ?_
        rintro ee w2 ⟨rfl, hb2⟩
        rw [HRR.out]
        have hs2 := hb2.size
        have HB2 := Lib.hid (H0.out.trans (hb2.mono (by omega)))
        have p3 := (q2.below hb2 (by omega)).alloc (.cells (cF RR.1.1 RR.1.2) 65)
        have q3 := Is.new w2 (cF RR.1.1 RR.1.2) 65
        have HB3 := Lib.hid (HB2.out.trans ((below1 w2 (.cells (cF RR.1.1 RR.1.2) 65)).mono (by omega)))
        have ff := fun i => p3.frozen i
        obtain ⟨o0, o1, o2, o3, o4⟩ := p3.cells5
        obtain ⟨y0, y1⟩ := q3.cells2b
        have hl1 : w.heap.size + 1 < (w2.alloc (.cells (cF RR.1.1 RR.1.2) 65)).heap.size := by simp; omega
        clear hb2
        obtain ⟨rr, hrr⟩ : ∃ b, RR.2 = b := ⟨_, rfl⟩
        rw [hrr]
        have HR2 := Lib.hid hrr
        clear hrr
        try dsimp only
        cases rr with
        | false =>
          have HH0 := Lib.hid (show halfT (.mk 3 n x s l) = none from by rw [HH.out, HR2.out]; rfl)
          repeat (first | go_values | go_skip | go_guarded | go_step | go_upon)
          obtain ⟨e0, e1, e2, e3, e4, hbel, hold, hsz⟩ := out5 p3.blk (.int .i64 0) (.int .i64 0) (.int .i64 0) (.string ⟨#[]⟩) (.slice none 0 0) w.heap.size (by omega)
          refine bodyPost_ret (v := .tuple #[.agg zV, .bool false]) (by simp [results, Tryd.results18, go_sem, e0, e1, e2, e3, e4]) rfl ⟨Or.inl ⟨HH0.out, rfl⟩, HB3.out.trans hbel⟩
        | true =>
          have HH0 := Lib.hid (show halfT (.mk 3 n x s l) = some (.mk 4 RR.1.1 RR.1.2 ⟨#[]⟩ []) from by rw [HH.out, HR2.out]; rfl)
          go_wp2_with fail
          refine (spec_l6FltVal RR.1.1 RR.1.2 _).mono ?_
          rintro ee w5 ⟨rfl, hb5⟩
          have p5 := p3.below hb5 hl1
          have hl5 : w.heap.size + 1 < w5.heap.size := Nat.lt_of_lt_of_le hl1 hb5.size
          have HB5 := Lib.hid (HB3.out.trans (hb5.mono HB3.out.size))
          have f5 := fun i => p5.frozen i
          clear hb5 o0 o1 o2 o3 o4
          obtain ⟨o0, o1, o2, o3, o4⟩ := p5.cells5
          try dsimp only
          repeat (first | go_values | go_skip | go_guarded | go_step | go_upon)
          obtain ⟨e0, e1, e2, e3, e4, hbel, hold, hsz⟩ := out5 p5.blk (.int .i64 4) (.int .i64 RR.1.1) (.int .i64 RR.1.2) (.string ⟨#[]⟩) (.slice none 0 0) w.heap.size (by omega)
          refine bodyPost_ret (v := .tuple #[.agg #[.int .i64 4, .int .i64 RR.1.1, .int .i64 RR.1.2, .string ⟨#[]⟩, .slice none 0 0], .bool true]) (by simp [results, Tryd.results18, go_sem, e0, e1, e2, e3, e4]) rfl ⟨Or.inr ⟨_, HH0.out, none, 0, rfl, Own.nil _ _ _ _ _ (by simp [maxLen])⟩, HB5.out.trans hbel⟩
      · subst hk3
        go_enter Tryd.func18, Tryd.ntmps18
        go_wp2_with fail
        generalize hW : (w.alloc (Obj.cells #[Value.int IntKind.i64 6, Value.int IntKind.i64 n, Value.int IntKind.i64 x, Value.string s, Value.slice a l.length cap] 31)).alloc (Obj.cells zV 31) = W0
        have q2 : Is W0 (w.heap.size + 1) 31 zV := by subst hW; exact Is.new2 _ _ _ _
        have H0 := Lib.hid (show Below w.heap.size w W0 from by subst hW; exact below2 _ _ _)
        have hs0 : W0.heap.size = w.heap.size + 2 := by subst hW; simp
        clear hW
        refine (spec_NearFlt n x W0 HN.out HX.out).mono ?_
        rintro ee w2 ⟨rfl, hb2⟩
        rw [HRR.out]
        have hs2 := hb2.size
        have HB2 := Lib.hid (H0.out.trans (hb2.mono (by omega)))
        have p3 := (q2.below hb2 (by omega)).alloc (.cells (cF RR.1.1 RR.1.2) 65)
        have q3 := Is.new w2 (cF RR.1.1 RR.1.2) 65
        have HB3 := Lib.hid (HB2.out.trans ((below1 w2 (.cells (cF RR.1.1 RR.1.2) 65)).mono (by omega)))
        have ff := fun i => p3.frozen i
        obtain ⟨o0, o1, o2, o3, o4⟩ := p3.cells5
        obtain ⟨y0, y1⟩ := q3.cells2b
        have hl1 : w.heap.size + 1 < (w2.alloc (.cells (cF RR.1.1 RR.1.2) 65)).heap.size := by simp; omega
        clear hb2
        obtain ⟨rr, hrr⟩ : ∃ b, RR.2 = b := ⟨_, rfl⟩
        rw [hrr]
        have HR2 := Lib.hid hrr
        clear hrr
        try dsimp only
        cases rr with
        | false =>
          have HH0 := Lib.hid (show halfT (.mk 6 n x s l) = none from by rw [HH.out, HR2.out]; rfl)
          repeat (first | go_values | go_skip | go_guarded | go_step | go_upon)
          obtain ⟨e0, e1, e2, e3, e4, hbel, hold, hsz⟩ := out5 p3.blk (.int .i64 0) (.int .i64 0) (.int .i64 0) (.string ⟨#[]⟩) (.slice none 0 0) w.heap.size (by omega)
          refine bodyPost_ret (v := .tuple #[.agg zV, .bool false]) (by simp [results, Tryd.results18, go_sem, e0, e1, e2, e3, e4]) rfl ⟨Or.inl ⟨HH0.out, rfl⟩, HB3.out.trans hbel⟩
        | true =>
          have HH0 := Lib.hid (show halfT (.mk 6 n x s l) = some (.mk 4 RR.1.1 RR.1.2 ⟨#[]⟩ []) from by rw [HH.out, HR2.out]; rfl)
          go_wp2_with fail
          refine (spec_l6FltVal RR.1.1 RR.1.2 _).mono ?_
          rintro ee w5 ⟨rfl, hb5⟩
          have p5 := p3.below hb5 hl1
          have hl5 : w.heap.size + 1 < w5.heap.size := Nat.lt_of_lt_of_le hl1 hb5.size
          have HB5 := Lib.hid (HB3.out.trans (hb5.mono HB3.out.size))
          have f5 := fun i => p5.frozen i
          clear hb5 o0 o1 o2 o3 o4
          obtain ⟨o0, o1, o2, o3, o4⟩ := p5.cells5
          try dsimp only
          repeat (first | go_values | go_skip | go_guarded | go_step | go_upon)
          obtain ⟨e0, e1, e2, e3, e4, hbel, hold, hsz⟩ := out5 p5.blk (.int .i64 4) (.int .i64 RR.1.1) (.int .i64 RR.1.2) (.string ⟨#[]⟩) (.slice none 0 0) w.heap.size (by omega)
          refine bodyPost_ret (v := .tuple #[.agg #[.int .i64 4, .int .i64 RR.1.1, .int .i64 RR.1.2, .string ⟨#[]⟩, .slice none 0 0], .bool true]) (by simp [results, Tryd.results18, go_sem, e0, e1, e2, e3, e4]) rfl ⟨Or.inr ⟨_, HH0.out, none, 0, rfl, Own.nil _ _ _ _ _ (by simp [maxLen])⟩, HB5.out.trans hbel⟩
    · have hk3 : ¬ k = 3 := fun h => hkk (Or.inl h)
      have hk6 : ¬ k = 6 := fun h => hkk (Or.inr h)
      have HH := Lib.hid (show halfT (.mk k n x s l) = (halfTs l).map (fun r => .mk k n x s r) from by rw [halfT, if_neg hkk])
      clear hkk
      have hb3 : (k == 3) = false := by simpa using hk3
      have hb6 : (k == 6) = false := by simpa using hk6
      go_enter Tryd.func18, Tryd.ntmps18
      go_wp2_with fail
      generalize hW : ((w.alloc (Obj.cells #[Value.int IntKind.i64 k, Value.int IntKind.i64 n, Value.int IntKind.i64 x, Value.string s, Value.slice a l.length cap] 31)).alloc (Obj.cells zV 31)).alloc (Obj.cells #[Value.int IntKind.i64 k, Value.int IntKind.i64 n, Value.int IntKind.i64 x, Value.string s, Value.slice none 0 0] 31) = W0
      have q1 : Is W0 w.heap.size 31 #[Value.int IntKind.i64 k, Value.int IntKind.i64 n, Value.int IntKind.i64 x, Value.string s, Value.slice a l.length cap] := by subst hW; exact ((Is.new _ _ _).alloc _).alloc _
      have q2 : Is W0 (w.heap.size + 1) 31 zV := by subst hW; exact (Is.new2 _ _ _ _).alloc _
      have q3 : Is W0 (w.heap.size + 1 + 1) 31 #[Value.int IntKind.i64 k, Value.int IntKind.i64 n, Value.int IntKind.i64 x, Value.string s, Value.slice none 0 0] := by subst hW; exact Is.new3 _ _ _ _ _
      have hs0 : W0.heap.size = w.heap.size + 3 := by subst hW; simp
      have H0 := Lib.hid (show Below w.heap.size w W0 from by subst hW; exact below3 _ _ _ _)
      clear hW
      have HC := Lib.hid hct; clear hct
      go_loopw [7] (fun i wr => ∃ (j : Nat) (ar : Option Addr) (cr : Nat) (rl : List T), j ≤ l.length ∧ i = .int .i64 j ∧ Hid (halfTs (l.take j) = some rl) ∧ Is wr (w.heap.size + 1 + 1) 31 #[Value.int IntKind.i64 k, Value.int IntKind.i64 n, Value.int IntKind.i64 x, Value.string s, Value.slice ar rl.length cr] ∧ App TV 5 31 True wr (w.heap.size + 3) wr.heap.size ar cr rl ∧ Below (w.heap.size + 2) W0 wr) (fun i _ => l.length - (intOf i).toNat)
      case atStart => exact ⟨0, none, 0, [], Nat.zero_le _, rfl, Lib.hid rfl, q3, App.nil _ _ _, Below.refl _ _⟩
      case round =>
        obtain ⟨j, ar, cr, rl, hj, rfl, HRL, hout, happ, hb⟩ := hrel
        have hbs := hb.size
        have hrl : rl.length = j := by rw [halfTs_length _ _ HRL.out, List.length_take]; omega
        have HRLN := Lib.hid hrl
        have hlb1 : w.heap.size < wr.heap.size := by omega
        have hlb2 : w.heap.size + 1 + 1 < wr.heap.size := by omega
        by_cases hlt : j < l.length
        · obtain ⟨r0, r1, r2, r3, r4⟩ := (q1.below hb (by omega)).cells5
          obtain ⟨b, o, a2, cap2, rfl, hbl, d0, d1, d2, d3, d4, hwf, hq⟩ := ((HR.out.below H0.out hB).below hb (by omega)).get j hlt
          have hcj := T.count_get l j hlt
          have hlb : b < wr.heap.size := by omega
          have HWF := Lib.hid hwf; clear hwf
          have HA := Lib.hid happ; clear happ hrl
          go_wp2_with fail
          refine (IH.out l[j] (List.getElem_mem hlt) a2 cap2 B _ hq HWF.out (by omega) (by have := HC.out; omega)).mono ?_
          rintro e w2 ⟨hres, hb2⟩
          have hs2 := hb2.size
          have hlb3 : w.heap.size + 1 + 1 < w2.heap.size := by omega
          have HB2 := Lib.hid hb2
          have hres2 : Below (w.heap.size + 2) W0 w2 := hb.trans (hb2.mono (by omega))
          have p2 := q2.below hres2 (by omega)
          rcases hres with ⟨hnone, rfl⟩ | ⟨t', hsome, a3, cap3, rfl, hown⟩
          · have HH0 := Lib.hid (show halfT (.mk k n x s l) = none from by rw [HH.out, halfTs_none l j hlt hnone]; rfl)
            have p3 := p2.alloc (.cells zV 31)
            have ff := fun i => p3.frozen i
            obtain ⟨o0, o1, o2, o3, o4⟩ := p3.cells5
            have HB3 := Lib.hid ((H0.out.trans (hres2.mono (by omega))).trans ((below1 w2 (.cells zV 31)).mono (by omega)))
            have hl1 : w.heap.size + 1 < (w2.alloc (.cells zV 31)).heap.size := by simp; omega
            clear hb2 hnone hres2 r0 r1 r2 r3 r4
            try dsimp only
            repeat (first | go_values | go_skip | go_guarded | go_step | go_upon)
            obtain ⟨e0, e1, e2, e3, e4, hbel, hold, hsz⟩ := out5 p3.blk (.int .i64 0) (.int .i64 0) (.int .i64 0) (.string ⟨#[]⟩) (.slice none 0 0) w.heap.size (by omega)
            refine bodyPost_ret (v := .tuple #[.agg zV, .bool false]) (by simp [results, Tryd.results18, go_sem, e0, e1, e2, e3, e4]) rfl ⟨Or.inl ⟨HH0.out, rfl⟩, HB3.out.trans hbel⟩
          · obtain ⟨G, g1, g2, g3⟩ := hown
            have hout2 := (hout.below hb2 (by omega)).alloc (.cells (cV t' a3 cap3) 31)
            have ff := fun i => hout2.frozen i
            obtain ⟨o0, o1, o2, o3, o4⟩ := hout2.cells5
            have hlb4 : w.heap.size + 1 + 1 < (w2.alloc (.cells (cV t' a3 cap3) 31)).heap.size := by simp; omega
            have HWF2 := Lib.hid (halfT_wf HWF.out hsome)
            have HRL2 := Lib.hid (show halfTs (l.take (j + 1)) = some (rl ++ [t']) from by rw [halfTs_succ l j hlt, HRL.out, hsome]; rfl)
            have H2 := Lib.hid (below1 w2 (.cells (cV t' a3 cap3) 31))
            have HN := Lib.hid (((HA.out.below TV.elem hb2 (Nat.le_refl _)).below TV.elem H2.out (by omega)).below TV.elem (below1 (w2.alloc (.cells (cV t' a3 cap3) 31)) (.cells (cV t' a3 cap3) 31)) (by simp; omega))
            have HTV := Lib.hid (TV.box (w := w2.alloc (.cells (cV t' a3 cap3) 31)) 31 (g1.agree (fun f hf => H2.out.block f (g3 f hf).2.2.lt)) HWF2.out (fun f hf => by have := (g3 f hf).2.2.lt; simp; omega))
            have HG := Lib.hid (show ∀ f ∈ G, wr.heap.size ≤ f ∧ f < ((w2.alloc (.cells (cV t' a3 cap3) 31)).alloc (.cells (cV t' a3 cap3) 31)).heap.size ∧ Unf ((w2.alloc (.cells (cV t' a3 cap3) 31)).alloc (.cells (cV t' a3 cap3) 31)) f from fun f hf => ⟨by have := (g3 f hf).1; omega, by have := (g3 f hf).2.1; simp; omega, ((g3 f hf).2.2.alloc _).alloc _⟩)
            have hout3 := Lib.hid (hout2.alloc (.cells (cV t' a3 cap3) 31))
            have HBB := Lib.hid (hres2.trans ((H2.out.trans ((below1 (w2.alloc (.cells (cV t' a3 cap3) 31)) (.cells (cV t' a3 cap3) 31)).mono (by simp))).mono (by omega)))
            clear hb2 g1 g3 hres2 p2 hsome hout2
            try dsimp only
            go_wp2_with (at_builtin; refine wpList_app1 TV.elem rfl _ _ 29 rfl (.agg zV) 64 Tryd.underlying29 info_Val rfl (w.heap.size + 3) wr.heap.size ar cr rl (by first | rfl | (rw [HRLN.out]; rfl)) HN.out (by simp; omega) (by omega) (w2.heap.size + 1) 0 1 t' G (by first | rfl | simp) (by first | exact HTV.out | (have := HTV.out; simpa using this)) g2 HG.out (by rw [HRLN.out]; unfold maxLen; omega) (by rw [HRLN.out]; have := HC.out; omega) ?_; intro ar2 cr2 w3 happ3 hb3 _; have hout4 := hout3.out.below hb3 (by omega); have ff4 := (fun i => hout4.frozen i); obtain ⟨p0, p1, p2, p3, p4⟩ := hout4.cells5)
            go_roundw
            case rel =>
              have hlt3 := hout4.lt
              refine ⟨j + 1, ar2, cr2, rl ++ [t'], by omega, by go_num, HRL2, ?_, ?_, ?_⟩
              · rw [List.length_append]; exact hout4.set 4 _
              · rw [size_set]
                exact happ3.agree TV.elem (fun f hf _ => heap_miss _ _ _ _ (by omega) _)
              · exact (HBB.out.trans (hb3.mono (by omega))).trans (Below.setCell (Below.refl _ _) (p := ⟨w.heap.size + 1 + 1, 4, none⟩) (by simp) _)
            case measure => simp [intOf]; omega
        · have hjj : l.length = j := by omega
          have HJ := Lib.hid (show halfTs l = some rl from by have := HRL.out; rwa [← hjj, List.take_length] at this)
          have HH0 := Lib.hid (show halfT (.mk k n x s l) = some (.mk k n x s rl) from by rw [HH.out, HJ.out]; rfl)
          have p1 := q1.below hb (by omega)
          have p2 := q2.below hb (by omega)
          have HO := Lib.hid (Own.ow.2 happ.own)
          have HBR := Lib.hid hb
          have f2 := fun i => p2.frozen i
          obtain ⟨r0, r1, r2, r3, r4⟩ := p1.cells5
          obtain ⟨s0, s1, s2, s3, s4⟩ := hout.cells5
          obtain ⟨o0, o1, o2, o3, o4⟩ := p2.cells5
          have hlb3 : w.heap.size + 1 < wr.heap.size := by omega
          clear hjj hb happ hrl
          try dsimp only
          repeat (first | go_values | go_skip | go_guarded | go_step | go_upon)
          obtain ⟨e0, e1, e2, e3, e4, hbel, hold, hsz⟩ := out5 p2.blk (.int .i64 k) (.int .i64 n) (.int .i64 x) (.string s) (.slice ar rl.length cr) w.heap.size (by omega)
          refine bodyPost_ret (v := .tuple #[.agg #[.int .i64 k, .int .i64 n, .int .i64 x, .string s, .slice ar rl.length cr], .bool true]) (by simp [results, Tryd.results18, go_sem, e0, e1, e2, e3, e4]) rfl ⟨Or.inr ⟨_, HH0.out, ar, cr, rfl, ?_⟩, ?_⟩
          · rw [hsz]
            exact (HO.out.agree (fun f h1 h2 => hold f (by omega))).more (by omega) (Nat.le_refl _)
          · exact (H0.out.trans (HBR.out.mono (by omega))).trans hbel
end Go.Proofs.YtfbgmhjjdgglnaaDoor
