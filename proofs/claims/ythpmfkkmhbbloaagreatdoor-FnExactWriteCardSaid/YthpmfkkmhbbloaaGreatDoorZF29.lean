/- Texts of this proof, merged: PackI, WriW, WriY, WriZ. No condition beyond what each theorem states. -/
import Derived.Test.YthpmfkkmhbbloaaGreatDoorRows
import Derived.WalkKit
import Derived.ProofKit
import Derived.OpenShut
import Derived.Handy
import Derived.Lib.Hide
import Derived.Lib.SmallJoins
import Derived.Deep.RegionHeld3
import Derived.Deep.QuietTactic
import Derived.BigQuiet
import Derived.Deep.CutBlock
import Derived.Deep.DeepCutAuto
import Derived.Lib.AppendStr
import Derived.Lib.AppendZeros
import Derived.Test.YthpmfkkmhbbloaaGreatDoorZF1
import Derived.Test.YthpmfkkmhbbloaaGreatDoorZF2
import Derived.Test.YthpmfkkmhbbloaaGreatDoorZF3
import Derived.Test.YthpmfkkmhbbloaaGreatDoorZF7
import Derived.Test.YthpmfkkmhbbloaaGreatDoorZF9
import Derived.Test.YthpmfkkmhbbloaaGreatDoorZF16
import Derived.Test.YthpmfkkmhbbloaaGreatDoorZF10
import Derived.Test.YthpmfkkmhbbloaaGreatDoorZF4
import Derived.Test.YthpmfkkmhbbloaaGreatDoorZF5
import Derived.Test.YthpmfkkmhbbloaaGreatDoorZF6
import Derived.Test.YthpmfkkmhbbloaaGreatDoorZF11
import Derived.Test.YthpmfkkmhbbloaaGreatDoorZF12
import Derived.Test.YthpmfkkmhbbloaaGreatDoorZF15
import Derived.Test.YthpmfkkmhbbloaaGreatDoorZF26
import Derived.Test.YthpmfkkmhbbloaaGreatDoorZF19
import Derived.Test.YthpmfkkmhbbloaaGreatDoorZF28
import Derived.Laws.BytesArg
import Derived.Test.YthpmfkkmhbbloaaGreatDoorZF8
import Derived.Test.YthpmfkkmhbbloaaGreatDoorShelf
import Derived.Test.YthpmfkkmhbbloaaGreatDoorZF18
import Derived.Test.YthpmfkkmhbbloaaGreatDoorZF20
import Derived.Test.YthpmfkkmhbbloaaGreatDoorZF23
import Derived.Test.YthpmfkkmhbbloaaGreatDoorZF21
import Derived.Laws.IdiomStrings
set_option linter.unusedSimpArgs false
set_option linter.unnecessarySimpa false
namespace Go.Proofs.YthpmfkkmhbbloaaGreatDoor
open Go.ChangeShapes Go.WideShapes Go.ChangeAt Go.RowKit Go.Joins
set_option linter.unusedVariables false
set_option maxRecDepth 100000
set_option maxHeartbeats 8000000 in
theorem impl_appendPacked : ∀ t : T, ∀ (b : List Int) (ar : Option Addr) (cr rlo : Nat) (a : Option Addr) (cap B : Nat) (w : World), R w B a cap t.l → Wf t → T.sz t ≤ 1048576 → B ≤ rlo → rlo ≤ w.heap.size → AppL EByte 1 5 w rlo ar cr b [] → b.length + 10 * T.sz t + 10 ≤ 1000000000 →
    Calls Tryz.prog 96 #[.slice ar b.length cr, .agg (cV t a cap)] w fun e w' => ∃ a' cap', e = .returned (.slice a' (b ++ packK t).length cap') ∧ AppL EByte 1 5 w' rlo a' cap' (b ++ packK t) [] ∧ Below rlo w w' := by
  intro t
  induction t using T.ind with
  | h k n x s l ih =>
    intro b ar cr rlo a cap B w hr hwf hsz hBr hrl happ hz
    have hB : B ≤ w.heap.size := by omega
    have IH := Lib.hid ih; clear ih
    have HA := Lib.hid happ
    have HMF := Lib.hid (fun W (h : R W B a cap l) (hb : B ≤ W.heap.size) => impl_MarkFor (.mk k n x s l) a cap B W h hwf hb)
    have HMI := Lib.hid (markForD_i64 (.mk k n x s l) hwf hsz)
    have HPK := Lib.hid (show packK (.mk k n x s l) = if markOkD (markForD (.mk k n x s l)).1 (markForD (.mk k n x s l)).2 = false then [] else markL (markForD (.mk k n x s l)).1 (markForD (.mk k n x s l)).2 ++ (if k = 7 ∨ k = 8 then byteL s else if k = 9 ∨ k = 10 then packKs l else []) from by rw [packK])
    obtain ⟨⟨mk, mn⟩, hmk⟩ : ∃ r, markForD (.mk k n x s l) = r := ⟨_, rfl⟩
    rw [hmk] at HMF HMI HPK
    simp only at HMF HMI HPK
    obtain ⟨bb, hbb⟩ : ∃ r, markOkD mk mn = r := ⟨_, rfl⟩
    have HBB := Lib.hid hbb
    rw [hbb] at HPK
    have hmll := markL_len mk mn
    have hszl : T.szL l ≤ 1048576 := by simp only [T.sz] at hsz; omega
    have hss : s.size ≤ 1048576 := by simp only [T.sz] at hsz; omega
    have hz2 : b.length + 10 + 10 * T.szL l ≤ 1000000000 := by simp only [T.sz] at hz; omega
    have q0 := Is.new w (cV (.mk k n x s l) a cap) 29
    have HB0 := Lib.hid (below1 w (.cells (cV (.mk k n x s l) a cap) 29))
    simp only [cV, T.k, T.n, T.x, T.s, T.l] at hr HMF q0 HB0 ⊢
    obtain ⟨hl1, hl2⟩ := hr.len
    have hl0 := T.length_le_szL l
    have HR := Lib.hid hr
    have lg := q0.lt
    clear hwf hr hbb hmk hsz happ hz
    go_enter Tryz.func96, Tryz.ntmps96
    go_wp2_with fail
    refine (HMF.out _ (HR.out.below HB0.out hB) (by simp; omega)).mono ?_
    rintro e w1 ⟨rfl, hb1⟩
    have HB1 := Lib.hid (below_step HB0.out hb1 (by simp))
    have q1 := q0.below hb1 lg
    have lg1 := q1.lt
    have qm := Is.new w1 (cM mk mn) 49
    have HB2 := Lib.hid (HB1.out.trans ((below1 w1 (.cells (cM mk mn) 49)).mono HB1.out.size))
    have q2 := q1.alloc (.cells (cM mk mn) 49)
    have lgm := qm.lt
    have lg2 := q2.lt
    clear hb1 q0 lg
    go_wp2_with fail
    refine (impl_MarkOk mk mn _ HMI.out).mono ?_
    rintro e w2 ⟨rfl, hb2⟩
    rw [HBB.out]
    have HB3 := Lib.hid (HB2.out.trans (hb2.mono HB2.out.size))
    have q3 := q2.below hb2 lg2
    have qm3 := qm.below hb2 lgm
    obtain ⟨r0, r1, r2, r3, r4⟩ := q3.cells5
    obtain ⟨m0, m1⟩ := qm3.cells2
    have lg3 : w.heap.size < w2.heap.size := q3.lt
    have lgm3 : w1.heap.size < w2.heap.size := qm3.lt
    have HA2 := Lib.hid (HA.out.agree EByte.elem (fun f hf => HB3.out.block f hf) hrl)
    clear hb2 q1 q2 qm
    cases bb with
    | false =>
      rw [if_pos rfl] at HPK
      go_wp2_with fail
      go_ret
      exact ⟨ar, cr, ret_sl (by rw [HPK.out, List.append_nil]), by rw [HPK.out, List.append_nil]; exact HA2.out, HB3.out.mono hrl⟩
    | true =>
      rw [if_neg (by simp)] at HPK
      go_wp2_with fail
      refine (impl_PutMark0 mk mn _ HMI.out).mono ?_
      rintro e w3 ⟨a3, c3, rfl, happ3, hb3⟩
      have hs3 := HB3.out.size
      have hs3b := hb3.size
      have HB4 := Lib.hid (HB3.out.trans (hb3.mono HB3.out.size))
      have hs4 := HB4.out.size
      have q5 := q3.below hb3 lg3
      have Q5 := Lib.hid q5
      obtain ⟨a4, c4, w4, hrun, happ4, hb4, hout4, _, hsz4⟩ := run_appL (P := Tryz.prog) w3 EByte.elem 33 33 (.int .u8 0) 1 Tryz.underlying33 info_Byte2 rfl rlo ar cr b [] (HA2.out.agree EByte.elem (fun f hf => hb3.block f hf) (by omega)) (by omega) HA.out.cap.1 a3 c3 (markL mk mn) [] ((happ3.rd (by omega)).srcs EByte.flat) (by simp) (by unfold maxLen; omega) (by omega)
      have hrow := HA2.out.row
      have q6 := q5.agree (hout4 _ q5.lt (fun k' hk' => by have := HA.out.row k' hk'; omega))
      obtain ⟨y0, y1, y2, y3, y4⟩ := q6.cells5
      have lg6 := q6.lt
      have HA4 := Lib.hid happ4
      have HB5 := Lib.hid ((HB4.out.mono hrl).trans hb4)
      have hs5 := HB5.out.size
      simp only [List.length_append] at hrun
      clear hb3 happ3 q3 qm3 happ4 hb4 q5 hrow
      by_cases h7 : k = 7 ∨ k = 8
      · rw [if_pos h7] at HPK
        obtain ⟨a7, c7, w7, hrun7, happ7, hb7, _, _⟩ := run_appStr (P := Tryz.prog) w4 33 9 33 Tryz.underlying33 Tryz.underlying9 info_Byte2 rlo a4 c4 (b ++ markL mk mn) HA4.out.u8 HA4.out (by omega) s (by rw [List.length_append]; omega)
        have HA7 := Lib.hid happ7; have HB7 := Lib.hid (HB5.out.trans hb7)
        simp only [List.length_append] at hrun7
        clear happ7 hb7 hout4
        obtain rfl | rfl := h7
        all_goals
          go_wp2_with (first | (at_builtin; refine Lib.wpList_append_run _ rfl _ _ _ _ rfl _ _ rfl rfl _ _ hrun ?_) | (at_builtin; refine Lib.wpList_append_run _ rfl _ _ _ _ rfl _ _ rfl rfl _ _ hrun7 ?_))
          go_ret
          exact ⟨a7, c7, ret_sl (by rw [HPK.out]; simp only [List.length_append]; omega), by rw [HPK.out, ← List.append_assoc]; exact HA7.out, HB7.out⟩
      rw [if_neg h7] at HPK
      by_cases h9 : k = 9 ∨ k = 10
      · rw [if_pos h9] at HPK
        clear r0 r1 r2 r3 r4
        obtain rfl | rfl := h9
        all_goals
          go_wp2_with (at_builtin; refine Lib.wpList_append_run _ rfl _ _ _ _ rfl _ _ rfl rfl _ _ hrun ?_)
          clear y0 y1 y2 y3 y4 hrun hout4 q6 Q5 lg6 m0 m1
          go_loopw [0, 33] (fun q i wr => ∃ (j : Nat) (a' : Option Addr) (c' : Nat), j ≤ l.length ∧ i = .int .i64 j ∧ q = .slice a' ((b ++ markL mk mn) ++ packKs (l.take j)).length c' ∧ Hid (AppL EByte 1 5 wr rlo a' c' ((b ++ markL mk mn) ++ packKs (l.take j)) []) ∧ Hid (Below rlo w wr)) (fun _ i _ => l.length - (intOf i).toNat)
          case atStart => exact ⟨0, a4, c4, Nat.zero_le _, rfl, by simp [packKs], by simpa [packKs] using HA4, HB5⟩
          case round =>
            obtain ⟨j, a', c', hj, rfl, rfl, HA, HB⟩ := hrel
            have hbs := HB.out.size
            by_cases hlt : j < l.length
            · obtain ⟨b2, o, a2, cap2, rfl, hbl2, d0, d1, d2, d3, d4, hwf, hq⟩ := (HR.out.below HB.out hBr).get j hlt
              have hszj := T.sz_get l j hlt
              have h1 := T.szL_take_succ l j hlt
              have h2 := T.szL_take_le l (j + 1)
              have h3 := packKs_len (l.take j)
              have hlb : b2 < wr.heap.size := by omega
              have HWF := Lib.hid hwf
              have HQ := Lib.hid hq
              have HS := Lib.hid (show (b ++ markL mk mn) ++ packKs (l.take (j + 1)) = ((b ++ markL mk mn) ++ packKs (l.take j)) ++ packK l[j] from by rw [packKs_succ l j hlt]; simp only [List.append_assoc])
              have HIH := Lib.hid (IH.out l[j] (List.getElem_mem hlt))
              obtain ⟨u, hu⟩ : ∃ u, l[j] = u := ⟨_, rfl⟩
              rw [hu] at d0 d1 d2 d3 d4 HQ HWF HS hszj h1 HIH
              clear hwf hq hu
              go_wp2_with fail
              have hb1 : Below wr.heap.size wr (wr.alloc (.cells (cV u a2 cap2) 29)) := below1 _ _
              have hblen : (b ++ markL mk mn ++ packKs (l.take j)).length + 10 * T.sz u + 10 ≤ 1000000000 := by simp only [List.length_append]; omega
              have CC := HIH.out _ a' c' rlo a2 cap2 B _ (HQ.out.below hb1 (by omega)) HWF.out (by omega) hBr (by have := hb1.size; omega) (HA.out.agree EByte.elem (fun f hf => hb1.block f hf) (by omega)) hblen
              simp only [List.length_append, Nat.add_assoc] at CC
              refine CC.mono ?_
              rintro e w6 ⟨a6, c6, rfl, happ6, hb6⟩
              have HA6 := Lib.hid happ6
              have HB6 := Lib.hid ((HB.out.trans (hb1.mono (by omega))).trans hb6)
              clear CC happ6 hb6 hb1
              go_wp2_with fail
              go_roundw
              case rel => exact ⟨j + 1, a6, c6, by omega, by go_num, by rw [HS.out]; first | rfl | (congr 1; simp only [List.length_append, Nat.add_assoc]), Lib.hid (by rw [HS.out]; exact HA6.out), HB6⟩
              case measure => simp [intOf]; omega
            · have hjj : l.length = j := by omega
              have HJ := Lib.hid (show l.take j = l from by rw [← hjj, List.take_length])
              rw [HJ.out] at HA ⊢
              go_wp2_with fail
              go_ret
              exact ⟨a', c', ret_sl (by rw [HPK.out]; simp only [List.length_append]; omega), by rw [HPK.out, ← List.append_assoc]; exact HA.out, HB.out⟩
      · rw [if_neg h9, List.append_nil] at HPK
        have g7 : ¬ k = 7 := by omega
        have g8 : ¬ k = 8 := by omega
        have g9 : ¬ k = 9 := by omega
        have g10 : ¬ k = 10 := by omega
        go_wp2_with (at_builtin; refine Lib.wpList_append_run _ rfl _ _ _ _ rfl _ _ rfl rfl _ _ hrun ?_)
        go_ret
        exact ⟨a4, c4, ret_sl (by rw [HPK.out, List.length_append]), by rw [HPK.out]; exact HA4.out, HB5.out⟩
set_option maxHeartbeats 1000000 in
theorem impl_PackPacked (t : T) (a : Option Addr) (cap B : Nat) (w : World) (hr : R w B a cap t.l) (hwf : Wf t) (hsz : T.sz t ≤ 1048576) (hB : B ≤ w.heap.size) :
    Calls Tryz.prog 59 #[.agg (cV t a cap)] w fun e w' => ∃ a' cap', e = .returned (.slice a' (packK t).length cap') ∧ AppL EByte 1 5 w' w.heap.size a' cap' (packK t) [] ∧ Below w.heap.size w w' := by
  have HR := Lib.hid (hr.below (below1 w (.cells (cV t a cap) 29)) hB)
  have HB0 := Lib.hid (below1 w (.cells (cV t a cap) 29))
  have CC := Lib.hid (impl_appendPacked t [] none 0 w.heap.size a cap B (w.alloc (.cells (cV t a cap) 29)) HR.out hwf hsz hB (by simp) (Or.inl ⟨rfl, rfl, rfl, rfl⟩) (by simp; omega))
  clear hr hwf
  go_enter Tryz.func59, Tryz.ntmps59
  go_wp2_with fail
  refine CC.out.mono ?_
  rintro e w2 ⟨a2, c2, rfl, happ2, hb2⟩
  go_wp2_with fail
  go_ret
  exact ⟨a2, c2, rfl, happ2, HB0.out.trans hb2⟩
end Go.Proofs.YthpmfkkmhbbloaaGreatDoor
namespace Go.Proofs.YthpmfkkmhbbloaaGreatDoor
open Go.ChangeShapes Go.WideShapes Go.ChangeAt Go.RowKit Go.Joins
set_option linter.unusedVariables false
set_option maxRecDepth 100000
def writeTL (t : T) : List Int := if (allB ownB t && allB tightU t) = true then packT t else []
def writeKL (t : T) : List Int := if (allB ownB t && allB packB t) = true then packK t else []
def writeWL (way : Int) (t : T) : List Int := if way = 1 then byteL (writeX t) else if way = 2 then writeTL t else if way = 3 then writeKL t else if way = 4 then byteL (writeP t) else []
set_option maxHeartbeats 1000000 in
theorem spec_WriteTight (t : T) (a : Option Addr) (cap B : Nat) (w : World) (hr : R w B a cap t.l) (hwf : Wf t) (hsz : T.sz t ≤ 1048576) (hB : B ≤ w.heap.size) :
    Calls Tryz.prog 28 #[.agg (cV t a cap)] w fun e w' => ∃ a' cap', e = .returned (.slice a' (writeTL t).length cap') ∧ AppL EByte 1 5 w' w.heap.size a' cap' (writeTL t) [] ∧ Below w.heap.size w w' := by
  have HR := Lib.hid hr; clear hr
  have HWF := Lib.hid hwf; clear hwf
  have H0 := Lib.hid (below1 w (.cells (cV t a cap) 29))
  have q0 := Is.new w (cV t a cap) 29
  go_enter Tryz.func28, Tryz.ntmps28
  go_wp2_with fail
  refine (spec_FitsTight t a cap B _ (HR.out.below H0.out hB) HWF.out hsz (by simp; omega)).mono ?_
  rintro e w1 ⟨rfl, hb1⟩
  have HB1 := Lib.hid (below_step H0.out hb1 (by simp))
  have p1 := q0.below hb1 (by simp)
  obtain ⟨r0, r1, r2, r3, r4⟩ := p1.cells5
  have l1 : w.heap.size < w1.heap.size := by have := hb1.size; simp at this; omega
  clear hb1
  cases hv : (allB ownB t && allB tightU t) with
  | false =>
    have HD := Lib.hid (show writeTL t = [] from if_neg (by rw [hv]; simp))
    clear hv
    have HA := Lib.hid (AppL.empty (E := EByte) (n := 1) (e := 5) w1 w.heap.size (by omega))
    go_wp2_with fail
    go_ret
    exact ⟨_, 0, ret_sl (by rw [HD.out]; rfl), by rw [HD.out]; exact HA.out, HB1.out.trans ((below1 _ _).mono (by omega))⟩
  | true =>
    have HD := Lib.hid (show writeTL t = packT t from if_pos hv)
    clear hv
    go_wp2_with fail
    refine (spec_PackTight t a cap B w1 (HR.out.below HB1.out hB) HWF.out hsz (by omega)).mono ?_
    rintro e w2 ⟨a2, c2, rfl, happ2, hb2⟩
    have HA2 := Lib.hid (happ2.less (show w.heap.size ≤ _ by omega))
    have HB2 := Lib.hid (HB1.out.trans (hb2.mono HB1.out.size))
    clear happ2 hb2
    go_wp2_with fail
    go_ret
    exact ⟨a2, c2, ret_sl (by rw [HD.out]), by rw [HD.out]; exact HA2.out, HB2.out⟩
set_option maxHeartbeats 1000000 in
theorem spec_WritePacked (t : T) (a : Option Addr) (cap B : Nat) (w : World) (hr : R w B a cap t.l) (hwf : Wf t) (hsz : T.sz t ≤ 1048576) (hB : B ≤ w.heap.size) :
    Calls Tryz.prog 29 #[.agg (cV t a cap)] w fun e w' => ∃ a' cap', e = .returned (.slice a' (writeKL t).length cap') ∧ AppL EByte 1 5 w' w.heap.size a' cap' (writeKL t) [] ∧ Below w.heap.size w w' := by
  have HR := Lib.hid hr; clear hr
  have HWF := Lib.hid hwf; clear hwf
  have H0 := Lib.hid (below1 w (.cells (cV t a cap) 29))
  have q0 := Is.new w (cV t a cap) 29
  go_enter Tryz.func29, Tryz.ntmps29
  go_wp2_with fail
  refine (spec_FitsPacked t a cap B _ (HR.out.below H0.out hB) HWF.out hsz (by simp; omega)).mono ?_
  rintro e w1 ⟨rfl, hb1⟩
  have HB1 := Lib.hid (below_step H0.out hb1 (by simp))
  have p1 := q0.below hb1 (by simp)
  obtain ⟨r0, r1, r2, r3, r4⟩ := p1.cells5
  have l1 : w.heap.size < w1.heap.size := by have := hb1.size; simp at this; omega
  clear hb1
  cases hv : (allB ownB t && allB packB t) with
  | false =>
    have HD := Lib.hid (show writeKL t = [] from if_neg (by rw [hv]; simp))
    clear hv
    have HA := Lib.hid (AppL.empty (E := EByte) (n := 1) (e := 5) w1 w.heap.size (by omega))
    go_wp2_with fail
    go_ret
    exact ⟨_, 0, ret_sl (by rw [HD.out]; rfl), by rw [HD.out]; exact HA.out, HB1.out.trans ((below1 _ _).mono (by omega))⟩
  | true =>
    have HD := Lib.hid (show writeKL t = packK t from if_pos hv)
    clear hv
    go_wp2_with fail
    refine (spec_PackPacked t a cap B w1 (HR.out.below HB1.out hB) HWF.out hsz (by omega)).mono ?_
    rintro e w2 ⟨a2, c2, rfl, happ2, hb2⟩
    have HA2 := Lib.hid (happ2.less (show w.heap.size ≤ _ by omega))
    have HB2 := Lib.hid (HB1.out.trans (hb2.mono HB1.out.size))
    clear happ2 hb2
    go_wp2_with fail
    go_ret
    exact ⟨a2, c2, ret_sl (by rw [HD.out]), by rw [HD.out]; exact HA2.out, HB2.out⟩
set_option maxHeartbeats 1000000 in
theorem impl_WriteTight (t : T) (a : Option Addr) (cap B : Nat) (w : World) (hr : R w B a cap t.l) (hwf : Wf t) (hsz : T.sz t ≤ 1048576) (he : Env B w) (hB : B ≤ w.heap.size) :
    Calls Tryz.prog 32 #[.agg (cV t a cap)] w fun e w' => ∃ a' cap', e = .returned (.slice a' (writeTL t).length cap') ∧ AppL EByte 1 5 w' w.heap.size a' cap' (writeTL t) [] ∧ Below w.heap.size w w' := by
  have HR := Lib.hid hr; clear hr
  have HE := Lib.hid he; clear he
  have HWF := Lib.hid hwf; clear hwf
  have H0 := Lib.hid (below1 w (.cells (cV t a cap) 29))
  have q0 := Is.new w (cV t a cap) 29
  go_enter Tryz.func32, Tryz.ntmps32
  go_wp2_with fail
  refine (impl_FitsTight t a cap B _ (HR.out.below H0.out hB) HWF.out hsz (HE.out.step (H0.out.mono hB)) (by simp; omega)).mono ?_
  rintro e w1 ⟨rfl, hb1⟩
  have HB1 := Lib.hid (below_step H0.out hb1 (by simp))
  have p1 := q0.below hb1 (by simp)
  obtain ⟨r0, r1, r2, r3, r4⟩ := p1.cells5
  have l1 : w.heap.size < w1.heap.size := by have := hb1.size; simp at this; omega
  clear hb1
  cases hv : (allB ownB t && allB tightU t) with
  | false =>
    have HD := Lib.hid (show writeTL t = [] from if_neg (by rw [hv]; simp))
    clear hv
    go_wp2_with fail
    go_ret
    exact ⟨none, 0, ret_sl (by rw [HD.out]; rfl), by rw [HD.out]; exact Or.inl ⟨rfl, rfl, rfl, rfl⟩, HB1.out⟩
  | true =>
    have HD := Lib.hid (show writeTL t = packT t from if_pos hv)
    clear hv
    go_wp2_with fail
    refine (impl_PackTight t a cap B w1 (HR.out.below HB1.out hB) HWF.out hsz (by omega)).mono ?_
    rintro e w2 ⟨a2, c2, rfl, happ2, hb2⟩
    have HA2 := Lib.hid (happ2.less (show w.heap.size ≤ _ by omega))
    have HB2 := Lib.hid (HB1.out.trans (hb2.mono HB1.out.size))
    clear happ2 hb2
    go_wp2_with fail
    go_ret
    exact ⟨a2, c2, ret_sl (by rw [HD.out]), by rw [HD.out]; exact HA2.out, HB2.out⟩
set_option maxHeartbeats 1000000 in
theorem impl_WritePacked (t : T) (a : Option Addr) (cap B : Nat) (w : World) (hr : R w B a cap t.l) (hwf : Wf t) (hsz : T.sz t ≤ 1048576) (he : Env B w) (hB : B ≤ w.heap.size) :
    Calls Tryz.prog 33 #[.agg (cV t a cap)] w fun e w' => ∃ a' cap', e = .returned (.slice a' (writeKL t).length cap') ∧ AppL EByte 1 5 w' w.heap.size a' cap' (writeKL t) [] ∧ Below w.heap.size w w' := by
  have HR := Lib.hid hr; clear hr
  have HE := Lib.hid he; clear he
  have HWF := Lib.hid hwf; clear hwf
  have H0 := Lib.hid (below1 w (.cells (cV t a cap) 29))
  have q0 := Is.new w (cV t a cap) 29
  go_enter Tryz.func33, Tryz.ntmps33
  go_wp2_with fail
  refine (impl_FitsPacked t a cap B _ (HR.out.below H0.out hB) HWF.out hsz (HE.out.step (H0.out.mono hB)) (by simp; omega)).mono ?_
  rintro e w1 ⟨rfl, hb1⟩
  have HB1 := Lib.hid (below_step H0.out hb1 (by simp))
  have p1 := q0.below hb1 (by simp)
  obtain ⟨r0, r1, r2, r3, r4⟩ := p1.cells5
  have l1 : w.heap.size < w1.heap.size := by have := hb1.size; simp at this; omega
  clear hb1
  cases hv : (allB ownB t && allB packB t) with
  | false =>
    have HD := Lib.hid (show writeKL t = [] from if_neg (by rw [hv]; simp))
    clear hv
    go_wp2_with fail
    go_ret
    exact ⟨none, 0, ret_sl (by rw [HD.out]; rfl), by rw [HD.out]; exact Or.inl ⟨rfl, rfl, rfl, rfl⟩, HB1.out⟩
  | true =>
    have HD := Lib.hid (show writeKL t = packK t from if_pos hv)
    clear hv
    go_wp2_with fail
    refine (impl_PackPacked t a cap B w1 (HR.out.below HB1.out hB) HWF.out hsz (by omega)).mono ?_
    rintro e w2 ⟨a2, c2, rfl, happ2, hb2⟩
    have HA2 := Lib.hid (happ2.less (show w.heap.size ≤ _ by omega))
    have HB2 := Lib.hid (HB1.out.trans (hb2.mono HB1.out.size))
    clear happ2 hb2
    go_wp2_with fail
    go_ret
    exact ⟨a2, c2, ret_sl (by rw [HD.out]), by rw [HD.out]; exact HA2.out, HB2.out⟩
end Go.Proofs.YthpmfkkmhbbloaaGreatDoor
namespace Go.Proofs.YthpmfkkmhbbloaaGreatDoor
open Go.ChangeShapes Go.WideShapes Go.ChangeAt Go.RowKit Go.Joins
set_option linter.unusedVariables false
set_option maxRecDepth 100000
/-! ### A row of bytes of its own, the run-time's mark behind it or not -/
def OwB (w : World) (lo hi : Nat) (a : Option Addr) (l : List Int) : Prop :=
  (∀ x ∈ l, U8 x) ∧ (l ≠ [] → ∃ (g : Nat) (c : Array Value) (e : TypeId) (fr : Nat × Nat), a = some ⟨g, 0, none⟩ ∧ lo ≤ g ∧ g < hi ∧ w.heap[g]? = some (.cells c e fr) ∧ (∀ i, i < l.length → (decide (fr.1 ≤ i) && decide (i < fr.2)) = false) ∧ ∀ i (h : i < l.length), c[i]? = some (.int .u8 l[i]))
theorem OwB.cell {w : World} {lo hi : Nat} {a : Option Addr} {l : List Int} (h : OwB w lo hi a l) (j : Nat) (hj : j < l.length) :
    ∃ g, a = some ⟨g, 0, none⟩ ∧ lo ≤ g ∧ g < hi ∧ g < w.heap.size ∧ w.cell? ⟨g, j, none⟩ = some (.int .u8 l[j]) ∧ w.frozen? ⟨g, j, none⟩ = false ∧ U8 l[j] := by
  obtain ⟨g, c, e, fr, h1, h2, h3, h4, h5, h6⟩ := h.2 (fun hn => by rw [hn] at hj; simp at hj)
  refine ⟨g, h1, h2, h3, (Array.getElem?_eq_some_iff.1 h4).1, ?_, ?_, h.1 _ (List.getElem_mem hj)⟩
  · simp [World.cell?, h4, h6 j hj]
  · have := h5 j hj
    obtain ⟨lo', hi'⟩ := fr
    simp only at this
    simp [World.frozen?, h4]
    simpa using this
theorem OwB.keep {w w' : World} {lo hi : Nat} {a : Option Addr} {l : List Int} (h : OwB w lo hi a l) (hw : ∀ g, lo ≤ g → g < hi → g < w.heap.size → w'.heap[g]? = w.heap[g]?) : OwB w' lo hi a l :=
  ⟨h.1, fun hn => by
    obtain ⟨g, c, e, fr, h1, h2, h3, h4, h5, h6⟩ := h.2 hn
    exact ⟨g, c, e, fr, h1, h2, h3, (hw g h2 h3 (Array.getElem?_eq_some_iff.1 h4).1).trans h4, h5, h6⟩⟩
theorem OwB.below {w w' : World} {lo hi n : Nat} {a : Option Addr} {l : List Int} (h : OwB w lo hi a l) (hb : Below n w w') (hn : hi ≤ n) : OwB w' lo hi a l := h.keep (fun g _ h2 _ => hb.block g (by omega))
theorem OwB.beside {w w' : World} {lo hi lo' hi' : Nat} {a : Option Addr} {l : List Int} (h : OwB w lo hi a l) (hb : Beside lo' hi' w w') (hg : hi ≤ lo' ∨ hi' ≤ lo) : OwB w' lo hi a l :=
  h.keep (fun g h1 h2 h3 => hg.elim (fun hg => hb.1.block g (by omega)) (fun hg => hb.2 g (by omega) h3))
theorem OwB.more {w : World} {lo hi lo' hi' : Nat} {a : Option Addr} {l : List Int} (h : OwB w lo hi a l) (h1 : lo' ≤ lo) (h2 : hi ≤ hi') : OwB w lo' hi' a l :=
  ⟨h.1, fun hn => (by obtain ⟨g, c, e, fr, k1, k2, k3, k4⟩ := h.2 hn; exact ⟨g, c, e, fr, k1, by omega, by omega, k4⟩)⟩
theorem OwB.ofApp {w : World} {lo cap : Nat} {e : TypeId} {a : Option Addr} {l : List Int} (h : AppL EByte 1 e w lo a cap l []) : OwB w lo w.heap.size a l := by
  rcases h with ⟨_, _, rfl, _⟩ | ⟨g, cur, ha, h1, h3, h4, h5, h6, h7, h8⟩
  · exact ⟨fun x hx => (by cases hx), fun hn => absurd rfl hn⟩
  · have hget : ∀ j (hj : j < l.length), cur[j]? = some (.int .u8 l[j]) ∧ U8 l[j] := fun j hj => by
      obtain ⟨F', hv, _⟩ := h7.get j hj
      have h9 := hv.2.1
      rw [Nat.mul_one] at h9
      simp [World.cell?, h3] at h9
      exact ⟨h9, hv.2.2⟩
    exact ⟨fun x hx => (by obtain ⟨j, hj, rfl⟩ := List.mem_iff_getElem.1 hx; exact (hget j hj).2),
      fun _ => ⟨g, cur, e, (0, 0), ha, h1, (Array.getElem?_eq_some_iff.1 h3).1, h3, fun i _ => by simp, fun i hi => (hget i hi).1⟩⟩
/-- '[]byte(s)'. -/
theorem conv_str (w : World) (s : ByteArray) : ∃ (a' : Option Addr) (cap' : Nat) (w' : World), (convert 9 33 (.string s)).run Tryz.prog w = .ok (.slice a' s.size cap') w' ∧ OwB w' w.heap.size w'.heap.size a' (byteL s) ∧ Below w.heap.size w w' := by
  have hr := run_bytes_of_string (P := Tryz.prog) w 9 33 5 s Tryz.underlying9 Tryz.underlying33 Tryz.underlying5
  refine ⟨_, _, _, hr, ?_, ?_⟩
  · generalize hcap : grownCap w s.size 0 5 = cap
    refine ⟨byteL_u8 s, fun _ => ⟨w.heap.size, bytesRow s cap, 5, ((bytesRow s cap).size, (bytesRow s cap).size + 1), rfl, Nat.le_refl _, ?_, ?_, ?_, ?_⟩⟩
    · have := (below1 w (.cells (bytesRow s cap) 5 ((bytesRow s cap).size, (bytesRow s cap).size + 1))).size
      show w.heap.size < (w.heap.push _).size
      simp
    · show (w.heap.push _)[w.heap.size]? = _
      simp
    · intro i hi
      rw [byteL_len] at hi
      have : i < (bytesRow s cap).size := by
        unfold bytesRow
        rw [Array.size_append, Array.size_map]
        have : s.data.size = s.size := rfl
        omega
      simp; omega
    · intro i hi
      have hi2 : i < s.data.size := by rw [byteL_len] at hi; exact hi
      rw [bytesRow_at s cap i hi2]
      have hb := congrArg (fun z => z[i]?) (byteL_cells s)
      simp only [Lib.strCells, List.getElem?_map] at hb
      rw [List.getElem?_eq_getElem hi] at hb
      simp only [Option.map_some] at hb
      rw [hb, Array.getElem?_toList, Array.getElem?_eq_getElem hi2]; rfl
  · exact (Below.refl w.heap.size w).drew.trans (below1 w.drew _)
def mkB (k : Int) (n : Nat) : List Int := (List.range n).map (fun (i : Nat) => (k + i) % 256)
theorem mkB_len (k : Int) (n : Nat) : (mkB k n).length = n := by simp [mkB]
theorem mkB_u8 (k : Int) (n : Nat) : ∀ x ∈ mkB k n, U8 x := by
  intro x hx
  obtain ⟨i, _, rfl⟩ := List.mem_map.1 hx
  unfold U8; omega
theorem mkB_get (k : Int) (n j : Nat) (hj : j < (mkB k n).length) : (mkB k n)[j] = (k + j) % 256 := by simp [mkB]
theorem mkB_succ (k : Int) (n : Nat) : mkB k (n + 1) = mkB k n ++ [(k + n) % 256] := by simp [mkB, List.range_succ]
theorem OwB.set {w : World} {lo hi : Nat} {a : Option Addr} {l : List Int} (h : OwB w lo hi a l) (j : Nat) (hj : j < l.length) (v : Int) (hv : U8 v) (g : Nat) (ha : a = some ⟨g, 0, none⟩) : OwB (w.setCell ⟨g, j, none⟩ (.int .u8 v)) lo hi a (l.set j v) := by
  have hne : l ≠ [] := fun hn => by rw [hn] at hj; simp at hj
  obtain ⟨g', c, e, fr, h1, h2, h3, h4, h5, h6⟩ := h.2 hne
  rw [ha] at h1
  injection h1 with h1
  injection h1 with h1
  subst h1
  refine ⟨fun x hx => ?_, fun _ => ⟨g, c.setIfInBounds j (.int .u8 v), e, fr, ha, h2, h3, ?_, fun i hi => h5 i (by simpa using hi), fun i hi => ?_⟩⟩
  · rcases List.mem_or_eq_of_mem_set hx with hx | rfl
    · exact h.1 x hx
    · exact hv
  · simp [World.setCell, Array.getElem?_modify, h4]
  · have hi2 : i < l.length := by simpa using hi
    rw [Array.getElem?_setIfInBounds]
    by_cases hji : j = i
    · subst hji
      have hc : j < c.size := by
        have := h6 j hj
        exact (Array.getElem?_eq_some_iff.1 this).1
      simp [hc]
    · simp [hji, h6 i hi2]
set_option maxHeartbeats 2000000 in
theorem markByteS_calls (l : List Int) (a : Option Addr) (cap : Nat) (k : Int) (lo hi : Nat) (w : World) (h : OwB w lo hi a l) (hz : l.length ≤ 1000000000) (h0 : 0 ≤ k) (h1 : k ≤ 1000000000) :
    Calls Tryz.prog 14 #[.slice a l.length cap, .int .i64 k] w fun e w' => e = .returned (.int .i64 (k + l.length)) ∧ OwB w' lo hi a (mkB k l.length) ∧ Beside lo hi w w' ∧ w'.heap.size = w.heap.size := by
  have HO := Lib.hid h; clear h
  go_enter Tryz.func14, Tryz.ntmps14
  go_wp2_with fail
  go_loopw [1, 5] (fun q i wr => ∃ (j : Nat), j ≤ l.length ∧ i = .int .i64 j ∧ q = .int .i64 (k + j) ∧ Hid (OwB wr lo hi a (mkB k j ++ l.drop j)) ∧ Hid (Beside lo hi w wr) ∧ wr.heap.size = w.heap.size) (fun _ i _ => l.length - (intOf i).toNat)
  case atStart => exact ⟨0, Nat.zero_le _, rfl, by go_num, by simpa [mkB] using HO, Lib.hid (Beside.refl _ _ _), rfl⟩
  case round =>
    obtain ⟨j, hj, rfl, rfl, HJ, HB, hsz⟩ := hrel
    by_cases hlt : j < l.length
    · have hjl : j < (mkB k j ++ l.drop j).length := by rw [List.length_append, mkB_len, List.length_drop]; omega
      obtain ⟨g, ha, hg1, hg2, hg3, hc, hf, hu⟩ := HJ.out.cell j hjl
      have hv : U8 ((k + j) % 256) := by unfold U8; omega
      have HS := Lib.hid (HJ.out.set j hjl ((k + j) % 256) hv g ha)
      have he : (mkB k j ++ l.drop j).set j ((k + j) % 256) = mkB k (j + 1) ++ l.drop (j + 1) := by
        rw [List.drop_eq_getElem_cons hlt]
        have := set_mid (mkB k j) l[j] ((k + j) % 256) (l.drop (j + 1))
        rw [mkB_len] at this
        rw [this, mkB_succ, List.append_assoc]; rfl
      rw [he] at HS
      have hwu : IntKind.u8.wrap (k + j) = (k + j) % 256 := IntKind.wrap_u8 _
      have HB2 := Lib.hid (HB.out.trans (show Beside lo hi wr (wr.setCell ⟨g, j, none⟩ (.int .u8 ((k + j) % 256))) from ⟨(below1s wr g j _).mono hg1, fun f hf' _ => heap_miss _ _ _ _ (by omega) _⟩))
      subst ha
      clear he hu
      go_wp2_with fail
      go_roundw
      case rel => exact ⟨j + 1, by omega, by go_num, by go_num, HS, HB2, by first | exact hsz | (simp; exact hsz)⟩
      case measure => simp [intOf]; omega
    · have hjj : l.length = j := by omega
      have HE := Lib.hid (show mkB k j ++ l.drop j = mkB k l.length from by rw [hjj, List.drop_of_length_le (by omega), List.append_nil])
      go_wp2_with fail
      go_ret
      exact ⟨ret_i (by rw [hjj]), by rw [← HE.out]; exact HJ.out, HB.out, hsz⟩
theorem heldByteS_calls (n : Nat) (a : Option Addr) (cap : Nat) (k : Int) (lo hi : Nat) (w : World) (h : OwB w lo hi a (mkB k n)) (hz : n ≤ 1000000000) (h0 : 0 ≤ k) (h1 : k ≤ 1000000000) :
    Calls Tryz.prog 15 #[.slice a n cap, .int .i64 k] w fun e w' => e = .returned (.int .i64 (k + n)) ∧ Below w.heap.size w w' := by
  have HO := Lib.hid h; clear h
  go_enter Tryz.func15, Tryz.ntmps15
  go_wp2_with fail
  go_loopw [1, 5] (fun q i wr => ∃ (j : Nat), j ≤ n ∧ i = .int .i64 j ∧ q = .int .i64 (k + j) ∧ wr = w) (fun _ i _ => n - (intOf i).toNat)
  case atStart => exact ⟨0, Nat.zero_le _, rfl, by go_num, rfl⟩
  case round =>
    obtain ⟨j, hj, rfl, rfl, hwr⟩ := hrel
    have hwr2 := hwr.symm
    subst hwr2
    by_cases hlt : j < n
    · obtain ⟨g, ha, hg1, hg2, hg3, hc, hf, hu⟩ := HO.out.cell j (by rw [mkB_len]; exact hlt)
      rw [mkB_get] at hc
      have hwu : IntKind.u8.wrap (k + j) = (k + j) % 256 := IntKind.wrap_u8 _
      subst ha
      clear hu
      go_wp2_with fail
      go_roundw
      case rel => exact ⟨j + 1, by omega, by go_num, by go_num, by first | rfl | trivial⟩
      case measure => simp [intOf]; omega
    · have hjj : n = j := by omega
      go_wp2_with fail
      go_ret
      exact ⟨ret_i (by first | rfl | omega), Below.refl _ _⟩
theorem eqB_calls (l : List Int) (a a' : Option Addr) (cap cap' lo hi lo' hi' : Nat) (w : World) (h : OwB w lo hi a l) (h' : OwB w lo' hi' a' l) (hz : l.length ≤ 1000000000) :
    Calls Tryz.prog 12 #[.slice a l.length cap, .slice a' l.length cap'] w fun e w' => e = .returned (.bool true) ∧ Below w.heap.size w w' := by
  have HO := Lib.hid h; have HO' := Lib.hid h'; clear h h'
  go_enter Tryz.func12, Tryz.ntmps12
  go_wp2_with fail
  go_loopw [5] (fun i wr => ∃ (j : Nat), j ≤ l.length ∧ i = .int .i64 j ∧ Hid (OwB wr lo hi a l) ∧ Hid (OwB wr lo' hi' a' l) ∧ Below w.heap.size w wr) (fun i _ => l.length - (intOf i).toNat)
  case atStart => exact ⟨0, Nat.zero_le _, rfl, HO, HO', Below.refl _ _⟩
  case round =>
    obtain ⟨j, hj, rfl, HJ, HJ', hb⟩ := hrel
    by_cases hlt : j < l.length
    · obtain ⟨g, ha, hg1, hg2, hg3, hc, hf, hu⟩ := HJ.out.cell j hlt
      obtain ⟨g', ha', hg1', hg2', hg3', hc', hf', hu'⟩ := HJ'.out.cell j hlt
      subst ha ha'
      clear hf hf' hu hu'
      go_wp2_with fail
      go_quiet (fail)
      go_wp2_with fail
      go_roundw
      case rel => exact ⟨j + 1, by omega, by go_num, Lib.hid (HJ.out.keep (fun _ _ _ _ => rfl)), Lib.hid (HJ'.out.keep (fun _ _ _ _ => rfl)), hb.trans (below_drewN _ _ _)⟩
      case measure => simp [intOf]; omega
    · go_wp2_with fail
      go_ret
      exact ⟨rfl, hb⟩
end Go.Proofs.YthpmfkkmhbbloaaGreatDoor
namespace Go.Proofs.YthpmfkkmhbbloaaGreatDoor
open Go.ChangeShapes Go.WideShapes Go.ChangeAt Go.RowKit Go.Joins
set_option linter.unusedVariables false
set_option maxRecDepth 100000
theorem writeX_len (t : T) (hwf : Wf t) (hsz : T.sz t ≤ 1048576) : (writeX t).size ≤ 900000000 := by
  unfold writeX
  by_cases h : (allB ownB t && allB fitTB t) = true
  · rw [if_pos h]
    rw [Bool.and_eq_true] at h
    have := writeT_size t (allB_mono fitT_wr t (allB_both t h.1 h.2))
    omega
  · rw [if_neg h]; decide
theorem writeP_len (t : T) (hwf : Wf t) (hsz : T.sz t ≤ 1048576) : (writeP t).size ≤ 900000000 := by
  unfold writeP
  by_cases h : (allB ownB t && allB fitB t) = true
  · rw [if_pos h]
    rw [Bool.and_eq_true] at h
    have := writeT_size t (allB_mono fit_wr t h.2)
    omega
  · rw [if_neg h]; decide
theorem writeWL_len (way : Int) (t : T) (hwf : Wf t) (hsz : T.sz t ≤ 1048576) : (writeWL way t).length ≤ 900000000 := by
  unfold writeWL writeTL writeKL
  have h1 := packT_len t
  have h2 := packK_len t
  have h3 := writeX_len t hwf hsz
  have h4 := writeP_len t hwf hsz
  repeat' split
  all_goals first
    | (rw [byteL_len]; omega)
    | omega
    | (simp; done)
set_option maxHeartbeats 1000000 in
theorem spec_Write (way : Int) (t : T) (a : Option Addr) (cap B : Nat) (w : World) (hr : R w B a cap t.l) (hwf : Wf t) (hsz : T.sz t ≤ 1048576) (hB : B ≤ w.heap.size) :
    Calls Tryz.prog 10 #[.int .i64 way, .agg (cV t a cap)] w fun e w' => ∃ a' cap', e = .returned (.slice a' (writeWL way t).length cap') ∧ OwB w' w.heap.size w'.heap.size a' (writeWL way t) ∧ Below w.heap.size w w' := by
  have HR := Lib.hid (hr.below (below1 w (.cells (cV t a cap) 29)) hB)
  have HWF := Lib.hid hwf
  have hBw : B ≤ (w.alloc (.cells (cV t a cap) 29)).heap.size := by simp; omega
  have H0 := Lib.hid (below1 w (.cells (cV t a cap) 29))
  clear hr hwf
  by_cases h1 : way = 1
  · have HD := Lib.hid (show writeWL way t = byteL (writeX t) from if_pos h1)
    subst h1
    have CC := Lib.hid (spec_WriteText t a cap B _ HR.out HWF.out hsz hBw)
    go_enter Tryz.func10, Tryz.ntmps10
    go_wp2_with fail
    refine CC.out.mono ?_
    rintro e w2 ⟨rfl, hb2⟩
    have HB2 := Lib.hid (below_step H0.out hb2 (by simp))
    have hs2 := HB2.out.size
    obtain ⟨X, hX⟩ : ∃ X, writeX t = X := ⟨_, rfl⟩
    rw [hX] at HD ⊢
    obtain ⟨a3, c3, w3, hcv, hown, hb3⟩ := conv_str w2 X
    have HO := Lib.hid (hown.more hs2 (Nat.le_refl _))
    have HB3 := Lib.hid (HB2.out.trans (hb3.mono hs2))
    clear hb2 hown hb3 hX CC
    go_wp2_with fail
    go_ret
    exact ⟨a3, c3, ret_sl (by rw [HD.out, byteL_len]), by rw [HD.out]; exact HO.out, HB3.out⟩
  by_cases h2 : way = 2
  · have HD := Lib.hid (show writeWL way t = writeTL t from (if_neg h1).trans (if_pos h2))
    subst h2
    have CC := Lib.hid (spec_WriteTight t a cap B _ HR.out HWF.out hsz hBw)
    go_enter Tryz.func10, Tryz.ntmps10
    go_wp2_with fail
    refine CC.out.mono ?_
    rintro e w2 ⟨a2, c2, rfl, happ2, hb2⟩
    have HB2 := Lib.hid (below_step H0.out hb2 (by simp))
    have HO := Lib.hid (OwB.ofApp (happ2.less (show w.heap.size ≤ _ by simp)))
    clear hb2 happ2
    go_wp2_with fail
    go_ret
    exact ⟨a2, c2, ret_sl (by rw [HD.out]), by rw [HD.out]; exact HO.out, HB2.out⟩
  by_cases h3 : way = 3
  · have HD := Lib.hid (show writeWL way t = writeKL t from (if_neg h1).trans ((if_neg h2).trans (if_pos h3)))
    subst h3
    have CC := Lib.hid (spec_WritePacked t a cap B _ HR.out HWF.out hsz hBw)
    go_enter Tryz.func10, Tryz.ntmps10
    go_wp2_with fail
    refine CC.out.mono ?_
    rintro e w2 ⟨a2, c2, rfl, happ2, hb2⟩
    have HB2 := Lib.hid (below_step H0.out hb2 (by simp))
    have HO := Lib.hid (OwB.ofApp (happ2.less (show w.heap.size ≤ _ by simp)))
    clear hb2 happ2
    go_wp2_with fail
    go_ret
    exact ⟨a2, c2, ret_sl (by rw [HD.out]), by rw [HD.out]; exact HO.out, HB2.out⟩
  by_cases h4 : way = 4
  · have HD := Lib.hid (show writeWL way t = byteL (writeP t) from (if_neg h1).trans ((if_neg h2).trans ((if_neg h3).trans (if_pos h4))))
    subst h4
    have CC := Lib.hid (spec_WritePlain t a cap B _ HR.out HWF.out hsz hBw)
    go_enter Tryz.func10, Tryz.ntmps10
    go_wp2_with fail
    refine CC.out.mono ?_
    rintro e w2 ⟨rfl, hb2⟩
    have HB2 := Lib.hid (below_step H0.out hb2 (by simp))
    have hs2 := HB2.out.size
    obtain ⟨X, hX⟩ : ∃ X, writeP t = X := ⟨_, rfl⟩
    rw [hX] at HD ⊢
    obtain ⟨a3, c3, w3, hcv, hown, hb3⟩ := conv_str w2 X
    have HO := Lib.hid (hown.more hs2 (Nat.le_refl _))
    have HB3 := Lib.hid (HB2.out.trans (hb3.mono hs2))
    clear hb2 hown hb3 hX CC
    go_wp2_with fail
    go_ret
    exact ⟨a3, c3, ret_sl (by rw [HD.out, byteL_len]), by rw [HD.out]; exact HO.out, HB3.out⟩
  have HD := Lib.hid (show writeWL way t = [] from (if_neg h1).trans ((if_neg h2).trans ((if_neg h3).trans (if_neg h4))))
  go_enter Tryz.func10, Tryz.ntmps10
  go_wp2_with fail
  go_ret
  exact ⟨_, 0, ret_sl (by rw [HD.out]; rfl), by rw [HD.out]; exact ⟨fun x hx => (by cases hx), fun hn => absurd rfl hn⟩, by go_grown⟩
set_option maxHeartbeats 1000000 in
theorem impl_Write (way : Int) (t : T) (a : Option Addr) (cap B : Nat) (w : World) (hr : R w B a cap t.l) (hwf : Wf t) (hsz : T.sz t ≤ 1048576) (he : Env B w) (hB : B ≤ w.heap.size) :
    Calls Tryz.prog 11 #[.int .i64 way, .agg (cV t a cap)] w fun e w' => ∃ a' cap', e = .returned (.slice a' (writeWL way t).length cap') ∧ OwB w' w.heap.size w'.heap.size a' (writeWL way t) ∧ Below w.heap.size w w' := by
  have HR := Lib.hid (hr.below (below1 w (.cells (cV t a cap) 29)) hB)
  have HWF := Lib.hid hwf
  have hBw : B ≤ (w.alloc (.cells (cV t a cap) 29)).heap.size := by simp; omega
  have HE := Lib.hid (he.step ((below1 w (.cells (cV t a cap) 29)).mono hB)); clear he
  have H0 := Lib.hid (below1 w (.cells (cV t a cap) 29))
  clear hr hwf
  by_cases h1 : way = 1
  · have HD := Lib.hid (show writeWL way t = byteL (writeX t) from if_pos h1)
    subst h1
    have CC := Lib.hid (impl_WriteText t a cap B _ HR.out HWF.out hsz HE.out hBw)
    go_enter Tryz.func11, Tryz.ntmps11
    go_wp2_with fail
    refine CC.out.mono ?_
    rintro e w2 ⟨rfl, hb2⟩
    have HB2 := Lib.hid (below_step H0.out hb2 (by simp))
    have hs2 := HB2.out.size
    obtain ⟨X, hX⟩ : ∃ X, writeX t = X := ⟨_, rfl⟩
    rw [hX] at HD ⊢
    obtain ⟨a3, c3, w3, hcv, hown, hb3⟩ := conv_str w2 X
    have HO := Lib.hid (hown.more hs2 (Nat.le_refl _))
    have HB3 := Lib.hid (HB2.out.trans (hb3.mono hs2))
    clear hb2 hown hb3 hX CC
    go_wp2_with fail
    go_ret
    exact ⟨a3, c3, ret_sl (by rw [HD.out, byteL_len]), by rw [HD.out]; exact HO.out, HB3.out⟩
  by_cases h2 : way = 2
  · have HD := Lib.hid (show writeWL way t = writeTL t from (if_neg h1).trans (if_pos h2))
    subst h2
    have CC := Lib.hid (impl_WriteTight t a cap B _ HR.out HWF.out hsz HE.out hBw)
    go_enter Tryz.func11, Tryz.ntmps11
    go_wp2_with fail
    refine CC.out.mono ?_
    rintro e w2 ⟨a2, c2, rfl, happ2, hb2⟩
    have HB2 := Lib.hid (below_step H0.out hb2 (by simp))
    have HO := Lib.hid (OwB.ofApp (happ2.less (show w.heap.size ≤ _ by simp)))
    clear hb2 happ2
    go_wp2_with fail
    go_ret
    exact ⟨a2, c2, ret_sl (by rw [HD.out]), by rw [HD.out]; exact HO.out, HB2.out⟩
  by_cases h3 : way = 3
  · have HD := Lib.hid (show writeWL way t = writeKL t from (if_neg h1).trans ((if_neg h2).trans (if_pos h3)))
    subst h3
    have CC := Lib.hid (impl_WritePacked t a cap B _ HR.out HWF.out hsz HE.out hBw)
    go_enter Tryz.func11, Tryz.ntmps11
    go_wp2_with fail
    refine CC.out.mono ?_
    rintro e w2 ⟨a2, c2, rfl, happ2, hb2⟩
    have HB2 := Lib.hid (below_step H0.out hb2 (by simp))
    have HO := Lib.hid (OwB.ofApp (happ2.less (show w.heap.size ≤ _ by simp)))
    clear hb2 happ2
    go_wp2_with fail
    go_ret
    exact ⟨a2, c2, ret_sl (by rw [HD.out]), by rw [HD.out]; exact HO.out, HB2.out⟩
  by_cases h4 : way = 4
  · have HD := Lib.hid (show writeWL way t = byteL (writeP t) from (if_neg h1).trans ((if_neg h2).trans ((if_neg h3).trans (if_pos h4))))
    subst h4
    have CC := Lib.hid (impl_WritePlain t a cap B _ HR.out HWF.out hsz HE.out hBw)
    go_enter Tryz.func11, Tryz.ntmps11
    go_wp2_with fail
    refine CC.out.mono ?_
    rintro e w2 ⟨rfl, hb2⟩
    have HB2 := Lib.hid (below_step H0.out hb2 (by simp))
    have hs2 := HB2.out.size
    obtain ⟨X, hX⟩ : ∃ X, writeP t = X := ⟨_, rfl⟩
    rw [hX] at HD ⊢
    obtain ⟨a3, c3, w3, hcv, hown, hb3⟩ := conv_str w2 X
    have HO := Lib.hid (hown.more hs2 (Nat.le_refl _))
    have HB3 := Lib.hid (HB2.out.trans (hb3.mono hs2))
    clear hb2 hown hb3 hX CC
    go_wp2_with fail
    go_ret
    exact ⟨a3, c3, ret_sl (by rw [HD.out, byteL_len]), by rw [HD.out]; exact HO.out, HB3.out⟩
  have HD := Lib.hid (show writeWL way t = [] from (if_neg h1).trans ((if_neg h2).trans ((if_neg h3).trans (if_neg h4))))
  go_enter Tryz.func11, Tryz.ntmps11
  go_wp2_with fail
  go_ret
  exact ⟨_, 0, ret_sl (by rw [HD.out]; rfl), by rw [HD.out]; exact ⟨fun x hx => (by cases hx), fun hn => absurd rfl hn⟩, by go_grown⟩
end Go.Proofs.YthpmfkkmhbbloaaGreatDoor
