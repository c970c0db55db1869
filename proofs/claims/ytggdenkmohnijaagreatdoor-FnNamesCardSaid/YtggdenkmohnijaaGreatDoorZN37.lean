/- Texts of this proof, merged: NmI. No condition beyond what each theorem states. -/
import Derived.Test.YtggdenkmohnijaaGreatDoorZN36
import Derived.Test.YtggdenkmohnijaaGreatDoorZN35
set_option linter.unusedSimpArgs false
set_option linter.unnecessarySimpa false
namespace Go.Proofs.YtggdenkmohnijaaGreatDoor
open Go.ChangeShapes Go.WideShapes Go.ChangeAt Go.RowKit Go.Joins
set_option linter.unusedVariables false
set_option maxRecDepth 100000
theorem wf_text {s : ByteArray} (h : s.size ≤ 1073741824) : Wf (.mk 7 0 0 s []) := ⟨by show I64 7; exact ⟨by decide, by decide⟩, by show I64 0; exact ⟨by decide, by decide⟩, by show I64 0; exact ⟨by decide, by decide⟩, by show s.size ≤ maxLen; unfold maxLen; omega⟩
theorem envMore {B B' : Nat} {w : World} (h : Env B w) (hB : B ≤ B') : Env B' w := ⟨fun v hv => h.1 v (hv.mono hB), fun v hv => h.2 v (hv.mono hB)⟩
theorem Own.fin {w0 w w' : World} {lo R : Nat} {a : Option Addr} {cap : Nat} {l : List T} (h : Own w lo w.heap.size a cap l) (hold : ∀ f, f ≠ R → w'.heap[f]? = w.heap[f]?) (hsz : w'.heap.size = w.heap.size) (hR : R < lo) (hlo : w0.heap.size ≤ lo) : Own w' w0.heap.size w'.heap.size a cap l := by
  rw [hsz]
  exact (h.agree (fun f h1 _ => hold f (by omega))).more hlo (Nat.le_refl _)
abbrev Rr (w : World) (B : Nat) (a : Option Addr) (cap : Nat) (l : List T) : Prop := R w B a cap l
def NamedOk (t : T) : Prop := ∀ (a : Option Addr) (cap B : Nat) (w : World), R w B a cap t.l → Wf t → Env B w → B ≤ w.heap.size →
    Calls Tryz.prog 81 #[.agg (cV t a cap)] w fun e w' => ∃ a' cap', e = .returned (.agg (cV (nuT t) a' cap')) ∧ Wf (nuT t) ∧ Own w' w.heap.size w'.heap.size a' cap' (nuT t).l ∧ Below w.heap.size w w'
def NameForOk (t : T) : Prop := ∀ (a : Option Addr) (cap B : Nat) (w : World), R w B a cap t.l → Wf t → Env B w → B ≤ w.heap.size →
    Calls Tryz.prog 27 #[.agg (cV t a cap)] w fun e w' => ∃ a' cap', e = .returned (.agg (cV (nfT t) a' cap')) ∧ Wf (nfT t) ∧ Own w' w.heap.size w'.heap.size a' cap' (nfT t).l ∧ Below w.heap.size w w'
set_option maxHeartbeats 8000000 in
theorem impl_nameFor_of (t : T) (hN : t.k ≠ 7 → allB ownB t = true → T.sz (nuT t) ≤ 1048576 ∧ NamedOk t) (hsz : T.sz t ≤ 1048576) : NameForOk t := by
  intro a cap B w hr hwf he hB
  have hct : T.count t ≤ 1073741824 := by have := T.countL_le_szL t; omega
  obtain ⟨W0, hW⟩ : ∃ W0, (w.alloc (.cells (cV t a cap) 26)).alloc (.cells zV 26) = W0 := ⟨_, rfl⟩
  have HB0 := Lib.hid (show Is W0 w.heap.size 26 (cV t a cap) from hW ▸ (Is.new _ _ _).alloc _)
  have HR0 := Lib.hid (show Is W0 (w.heap.size + 1) 26 zV from hW ▸ Is.new2 _ _ _ _)
  have H0 := Lib.hid (show Below w.heap.size w W0 from hW ▸ (below1 w _).trans ((below1 _ _).mono (by simp)))
  have hs0 : W0.heap.size = w.heap.size + 2 := by rw [← hW]; simp
  have HRr := Lib.hid (hr.below H0.out hB); have HE := Lib.hid (he.step (H0.out.mono hB)); have HWF := Lib.hid hwf
  have HVO := Lib.hid (fun (W : World) (h1 : R W B a cap t.l) (h2 : Env B W) (h3 : B ≤ W.heap.size) => impl_ValOk t a cap B W h1 hwf hsz h2 h3)
  have HCP := Lib.hid (fun (W : World) (h1 : R W B a cap t.l) (h3 : B ≤ W.heap.size) => impl_copyVal t a cap B W h1 hwf h3 hct)
  have HNN := Lib.hid hN
  clear hr he hwf hct hN
  obtain ⟨P, hP⟩ : ∃ P, nfT t = P := ⟨_, rfl⟩
  rw [hP]
  have HP := Lib.hid hP; clear hP
  go_enter Tryz.func27, Tryz.ntmps27
  go_upto_region 1 with (fail)
  try rw [hW]
  clear hW
  obtain ⟨R, hR⟩ : ∃ R, w.heap.size + 1 = R := ⟨_, rfl⟩
  rw [hR] at HR0
  try rw [hR]
  have hwR : w.heap.size < R := by omega
  have hs0R : R < W0.heap.size := by omega
  have hs1R : R + 1 ≤ W0.heap.size := by omega
  clear hR hs0
  obtain ⟨r0, r1, r2, r3, r4⟩ := HB0.out.cells5
  have lB := HB0.out.lt
  by_cases h7 : t.k = 7
  · have b7 : (t.k == 7) = true := by simpa using h7
    have HE7 := Lib.hid (show t = P from by rw [← HP.out]; exact (if_pos (Or.inl h7)).symm)
    clear h7 HP HNN HVO
    go_wp2_with fail
    refine (HCP.out W0 HRr.out (by omega)).mono ?_
    rintro e w3 ⟨a3, cap3, rfl, hown, hb3⟩
    have p3 := HR0.out.below hb3 hs0R
    have f3 := fun i => p3.frozen i
    have lg3 := p3.lt
    obtain ⟨o0, o1, o2, o3, o4⟩ := p3.cells5
    have HB3 := Lib.hid (H0.out.trans (hb3.mono (by omega)))
    go_wp2_with fail
    obtain ⟨e0, e1, e2, e3, e4, hbel, hold, hsz3⟩ := out5 p3.blk (.int .i64 t.k) (.int .i64 t.n) (.int .i64 t.x) (.string t.s) (.slice a3 t.l.length cap3) w.heap.size (by omega)
    refine bodyPost_ret (v := .agg (cV t a3 cap3)) (by simp [results, Tryz.results27, go_sem, e0, e1, e2, e3, e4]) rfl ?_
    rw [← HE7.out]
    exact ⟨a3, cap3, rfl, HWF.out, hown.fin hold hsz3 (by omega) (by have := H0.out.size; omega), HB3.out.trans hbel⟩
  have b7 : (t.k == 7) = false := by simpa using h7
  go_wp2_with fail
  refine (HVO.out W0 HRr.out HE.out (by omega)).mono ?_
  rintro e w1 ⟨rfl, hb1⟩
  have hs1 := hb1.size
  have HB1 := Lib.hid (HB0.out.below hb1 lB)
  have HR1 := Lib.hid (HR0.out.below hb1 hs0R)
  have H1 := Lib.hid (H0.out.trans (hb1.mono (by omega)))
  have HRr1 := Lib.hid (HRr.out.below hb1 (by omega))
  have HE1 := Lib.hid (HE.out.step (hb1.mono (by omega)))
  clear r0 r1 r2 r3 r4 lB hb1 HB0 HR0 H0 HRr HE HVO
  obtain ⟨r0, r1, r2, r3, r4⟩ := HB1.out.cells5
  have lB := HB1.out.lt
  have lR1 := HR1.out.lt
  cases hv : allB ownB t with
  | false =>
    have HE7 := Lib.hid (show t = P from by rw [← HP.out]; exact (if_pos (Or.inr hv)).symm)
    clear h7 HP HNN hv
    go_wp2_with fail
    refine (HCP.out w1 HRr1.out (by omega)).mono ?_
    rintro e w3 ⟨a3, cap3, rfl, hown, hb3⟩
    have p3 := HR1.out.below hb3 lR1
    have f3 := fun i => p3.frozen i
    have lg3 := p3.lt
    obtain ⟨o0, o1, o2, o3, o4⟩ := p3.cells5
    have HB3 := Lib.hid (H1.out.trans (hb3.mono (by omega)))
    go_wp2_with fail
    obtain ⟨e0, e1, e2, e3, e4, hbel, hold, hsz3⟩ := out5 p3.blk (.int .i64 t.k) (.int .i64 t.n) (.int .i64 t.x) (.string t.s) (.slice a3 t.l.length cap3) w.heap.size (by omega)
    refine bodyPost_ret (v := .agg (cV t a3 cap3)) (by simp [results, Tryz.results27, go_sem, e0, e1, e2, e3, e4]) rfl ?_
    rw [← HE7.out]
    exact ⟨a3, cap3, rfl, HWF.out, hown.fin hold hsz3 (by omega) (by have := H1.out.size; omega), HB3.out.trans hbel⟩
  | true =>
    have HE7 := Lib.hid (show T.mk 7 0 0 (writeX (nuT t)) [] = P from by rw [← HP.out]; exact (if_neg (by rw [hv]; simp [h7])).symm)
    obtain ⟨hnz, hnok⟩ := HNN.out h7 hv
    have HNO := Lib.hid hnok
    have HXS := Lib.hid (nuX_size hv)
    clear h7 HP HNN hnok hv
    go_wp2_with fail
    refine (HNO.out a cap B w1 HRr1.out HWF.out HE1.out (by omega)).mono ?_
    rintro e w2 ⟨a2, cap2, rfl, hwf2, hown, hb2⟩
    have hs2 := hb2.size
    have HB2 := Lib.hid hb2
    have HO2 := Lib.hid hown.read
    have HW2 := Lib.hid hwf2
    have HE2 := Lib.hid (envMore (HE1.out.step (hb2.mono (by omega))) (show B ≤ w2.heap.size from by omega))
    clear hwf2 hown hb2
    obtain ⟨u, hu⟩ : ∃ u, nuT t = u := ⟨_, rfl⟩
    rw [hu] at HW2 HO2 HE7 hnz HXS ⊢
    clear hu
    go_wp2_with fail
    refine (impl_WriteText u a2 cap2 w2.heap.size w2 HO2.out HW2.out hnz HE2.out (Nat.le_refl _)).mono ?_
    rintro e w3 ⟨rfl, hb3⟩
    have hs3 := hb3.size
    have HB3 := Lib.hid hb3; clear hb3
    obtain ⟨xs, hxs⟩ : ∃ xs, writeX u = xs := ⟨_, rfl⟩
    rw [hxs] at HE7 HXS ⊢
    clear hxs
    go_wp2_with fail
    refine (impl_TextVal xs w3).mono ?_
    rintro e w4 ⟨rfl, hb4⟩
    have hs4 := hb4.size
    have p3 := ((HR1.out.below HB2.out lR1).below HB3.out (by omega)).below hb4 (by omega)
    have f3 := fun i => p3.frozen i
    have lg3 := p3.lt
    obtain ⟨o0, o1, o2, o3, o4⟩ := p3.cells5
    have HB4 := Lib.hid (((H1.out.trans (HB2.out.mono (by omega))).trans (HB3.out.mono (by omega))).trans (hb4.mono (by omega)))
    go_wp2_with fail
    obtain ⟨e0, e1, e2, e3, e4, hbel, hold, hsz3⟩ := out5 p3.blk (.int .i64 7) (.int .i64 0) (.int .i64 0) (.string xs) (.slice none 0 0) w.heap.size (by omega)
    refine bodyPost_ret (v := .agg #[.int .i64 7, .int .i64 0, .int .i64 0, .string xs, .slice none 0 0]) (by simp [results, Tryz.results27, go_sem, e0, e1, e2, e3, e4]) rfl ?_
    rw [← HE7.out]
    exact ⟨none, 0, rfl, wf_text (by have := HXS.out; omega), Own.nil _ _ _ _ _ (by simp [maxLen]), HB4.out.trans hbel⟩
set_option maxHeartbeats 16000000 in
theorem impl_named : ∀ t : T, allB ownB t = true → NuOk t → NamedOk t := by
  intro t
  induction t using T.ind with
  | h k n x s l ih =>
    intro ho hn a cap B w hr hwf he hB
    have hq := own_of ho
    have hch : ∀ u ∈ l, allB ownB u = true := by rw [allB_eq, Bool.and_eq_true, List.all_eq_true] at ho; exact ho.2
    have hsz := hn.top.1
    have hcn : ∀ u ∈ l, NuOk u := fun u hu => hn.child hu
    have hct : T.count (.mk k n x s l) ≤ 1073741824 := by have := T.countL_le_szL (.mk k n x s l); omega
    rw [sz_of] at hsz
    have hll := T.length_le_szL l
    have hlen : l.length ≤ 1048576 := by omega
    have hss : s.size ≤ 1048576 := by omega
    have IH := Lib.hid (fun u (hu : u ∈ l) => ih u hu (hch u hu) (hcn u hu))
    have INF := Lib.hid (fun u (hu : u ∈ l) => impl_nameFor_of u (fun _ _ => ⟨(hcn u hu).top.2, ih u hu (hch u hu) (hcn u hu)⟩) (hcn u hu).top.1)
    have HOC := Lib.hid hch
    have HQ := Lib.hid hq
    simp only [T.l_mk] at hr
    obtain ⟨hl1, hl2⟩ := hr.len
    obtain ⟨P, hP⟩ : ∃ P, nuT (.mk k n x s l) = P := ⟨_, rfl⟩
    rw [hP]
    have HP := Lib.hid hP
    clear hP ih hn ho hch hcn hsz hll hq
    rw [show cV (.mk k n x s l) a cap = #[Value.int IntKind.i64 k, Value.int IntKind.i64 n, Value.int IntKind.i64 x, Value.string s, Value.slice a l.length cap] from rfl]
    obtain ⟨W0, hW⟩ : ∃ W0, (w.alloc (.cells #[.int .i64 k, .int .i64 n, .int .i64 x, .string s, .slice a l.length cap] 26)).alloc (.cells zV 26) = W0 := ⟨_, rfl⟩
    have HB0 := Lib.hid (show Is W0 w.heap.size 26 #[.int .i64 k, .int .i64 n, .int .i64 x, .string s, .slice a l.length cap] from hW ▸ (Is.new _ _ _).alloc _)
    have HR0 := Lib.hid (show Is W0 (w.heap.size + 1) 26 zV from hW ▸ Is.new2 _ _ _ _)
    have H0 := Lib.hid (show Below w.heap.size w W0 from hW ▸ (below1 w _).trans ((below1 _ _).mono (by simp)))
    have hs0 : W0.heap.size = w.heap.size + 2 := by rw [← hW]; simp
    have HRr := Lib.hid (hr.below H0.out hB); have HE0 := Lib.hid (he.step (H0.out.mono hB)); have HWF := Lib.hid hwf
    clear hr he hwf
    go_enter Tryz.func81, Tryz.ntmps81
    go_upto_region 1 with (fail)
    try rw [hW]
    clear hW
    obtain ⟨R, hR⟩ : ∃ R, w.heap.size + 1 = R := ⟨_, rfl⟩
    rw [hR] at HR0
    try rw [hR]
    have hwR : w.heap.size < R := by omega
    have hs0R : R < W0.heap.size := by omega
    have hs1R : R + 1 ≤ W0.heap.size := by omega
    clear hR hs0
    obtain ⟨r0, r1, r2, r3, r4⟩ := HB0.out.cells5
    have lB := HB0.out.lt
    by_cases k11 : k = 11
    · subst k11
      obtain ⟨u, rfl⟩ : ∃ u, l = [u] := List.length_eq_one_iff.1 ((own11 _ _ _ _).1 HQ.out).2.2.2
      have HEU := Lib.hid (show nuT u = P from by rw [← HP.out, nuT, if_pos rfl, nuH])
      obtain ⟨b, o, a2, cap2, rfl, hbl, d0, d1, d2, d3, d4, hwf, hq2⟩ := (HRr.out).get 0 (by simp)
      have HW1 := Lib.hid hwf; have HQ1 := Lib.hid hq2; clear hwf hq2
      simp only [List.getElem_cons_zero, Nat.zero_mul, Nat.add_zero] at d0 d1 d2 d3 d4 HW1 HQ1
      have hlb : b < W0.heap.size := by omega
      have HU := Lib.hid (IH.out u (by simp))
      clear HP IH INF HOC HQ
      go_wp2_with fail
      refine (HU.out a2 cap2 B W0 HQ1.out HW1.out HE0.out (by omega)).mono ?_
      rintro e w2 ⟨a3, cap3, rfl, hwf3, hown, hb2⟩
      rw [HEU.out] at hwf3 hown ⊢
      have HW3 := Lib.hid hwf3
      have p3 := HR0.out.below hb2 hs0R
      have f3 := fun i => p3.frozen i
      have lg3 := p3.lt
      obtain ⟨o0, o1, o2, o3, o4⟩ := p3.cells5
      have HB3 := Lib.hid (H0.out.trans (hb2.mono (by omega)))
      go_wp2_with fail
      obtain ⟨e0, e1, e2, e3, e4, hbel, hold, hsz3⟩ := out5 p3.blk (.int .i64 P.k) (.int .i64 P.n) (.int .i64 P.x) (.string P.s) (.slice a3 P.l.length cap3) w.heap.size (by omega)
      exact bodyPost_ret (v := .agg (cV P a3 cap3)) (by simp [results, Tryz.results81, go_sem, e0, e1, e2, e3, e4]) rfl ⟨a3, cap3, rfl, HW3.out, hown.fin hold hsz3 (by omega) (by have := H0.out.size; omega), HB3.out.trans hbel⟩
    have b11 : (k == 11) = false := by simpa using k11
    by_cases k9 : k < 9
    · have HEU := Lib.hid (show lT 1 (.mk k n x s l) = P from by
        have hl0 : l = [] := by
          have hq := HQ.out
          apply List.length_eq_zero_iff.1
          rcases own_kinds hq with rfl | rfl | rfl | rfl | rfl | rfl | rfl | rfl | rfl | rfl | rfl
          · exact ((own1 _ _ _ _).1 hq).2.2.1
          · exact ((own2 _ _ _ _).1 hq).2.2.1
          · exact ((own3 _ _ _ _).1 hq).2.2.1
          · exact ((own4 _ _ _ _).1 hq).2.1
          · exact ((own5 _ _ _ _).1 hq).2.2.1
          · exact ((own6 _ _ _ _).1 hq).2.1
          · exact ((own7 _ _ _ _).1 hq).2.1
          · exact ((own8 _ _ _ _).1 hq).2.1
          all_goals omega
        rw [← HP.out, nuT, if_neg k11, if_neg (by omega), hl0])
      have HLF := Lib.hid (impl_LeafFor1 1 (.mk k n x s l) a cap B W0 HRr.out HWF.out hct (by omega) hss (envMore HE0.out (show B ≤ W0.heap.size by omega)).1 rfl)
      rw [HEU.out] at HLF
      have HWP := Lib.hid (show Wf P from by rw [← HEU.out]; exact lT_wf 1 HWF.out hss)
      obtain ⟨q, hq⟩ : ∃ q, lN 1 (.mk k n x s l) = q := ⟨_, rfl⟩
      rw [hq] at HLF
      clear HP IH INF HOC HQ hq HEU
      go_wp2_with fail
      refine HLF.out.mono ?_
      rintro e w2 ⟨a3, cap3, rfl, hown, hb2⟩
      have hs2 := hb2.size
      go_upto_region 5 with (fail)
      have HN := Lib.hid (Is.new w2 (cV P a3 cap3) 26)
      have HR3 := Lib.hid ((HR0.out.below hb2 hs0R).alloc (.cells (cV P a3 cap3) 26))
      have HO3 := Lib.hid (show Own (w2.alloc (.cells (cV P a3 cap3) 26)) W0.heap.size (w2.alloc (.cells (cV P a3 cap3) 26)).heap.size a3 cap3 P.l from (hown.agree (fun f _ h2 => (below1 w2 _).block f h2)).more (Nat.le_refl _) (by simp))
      have HB3 := Lib.hid ((H0.out.trans (hb2.mono (by omega))).trans ((below1 w2 (.cells (cV P a3 cap3) 26)).mono (by omega)))
      obtain ⟨X, hX⟩ : ∃ X, w2.heap.size = X := ⟨_, rfl⟩
      rw [hX] at HN
      try rw [hX]
      have hRX : R < X := by omega
      clear hown hb2 hX
      generalize w2.alloc (.cells (cV P a3 cap3) 26) = w3 at *
      obtain ⟨y0, y1, y2, y3, y4⟩ := HN.out.cells5
      have lX := HN.out.lt
      have f3 := fun i => HR3.out.frozen i
      have lg3 := HR3.out.lt
      obtain ⟨o0, o1, o2, o3, o4⟩ := HR3.out.cells5
      go_wp2_with fail
      obtain ⟨e0, e1, e2, e3, e4, hbel, hold, hsz3⟩ := out5 HR3.out.blk (.int .i64 P.k) (.int .i64 P.n) (.int .i64 P.x) (.string P.s) (.slice a3 P.l.length cap3) w.heap.size (by omega)
      exact bodyPost_ret (v := .agg (cV P a3 cap3)) (by simp [results, Tryz.results81, go_sem, e0, e1, e2, e3, e4]) rfl ⟨a3, cap3, rfl, HWP.out, HO3.out.fin hold hsz3 (by omega) (by have := H0.out.size; omega), HB3.out.trans hbel⟩
    have hk910 : k = 9 ∨ k = 10 := by have := own_kinds HQ.out; omega
    obtain ⟨m, hm⟩ : ∃ m, decide (k = 10) = m := ⟨_, rfl⟩
    have HEU := Lib.hid (show lastT (.mk k 0 0 ⟨#[]⟩ (nuL m true l)) = P from by rw [← HP.out, nuT, if_neg k11, if_pos hk910, hm])
    have HM := Lib.hid hm
    have hkI : 0 ≤ k ∧ k ≤ 11 := by omega
    have HCT := Lib.hid (show T.countL l + 1 ≤ 1073741824 from by simpa only [T.count] using hct)
    clear HP HQ hm hct
    go_upto_region 7 with (fail)
    obtain ⟨V, hV⟩ : ∃ V, W0.heap.size = V := ⟨_, rfl⟩
    have HVn := Lib.hid (show Is (W0.alloc (.cells #[.int .i64 k, .int .i64 0, .int .i64 0, .string ⟨#[]⟩, .slice none 0 0] 26)) V 26 #[.int .i64 k, .int .i64 0, .int .i64 0, .string ⟨#[]⟩, .slice none 0 0] from hV ▸ Is.new W0 _ _)
    have hb1 := below1 W0 (.cells #[.int .i64 k, .int .i64 0, .int .i64 0, .string ⟨#[]⟩, .slice none 0 0] 26)
    have HB1 := Lib.hid (HB0.out.below hb1 lB)
    have HR1 := Lib.hid (HR0.out.below hb1 hs0R)
    have HRr1 := Lib.hid (HRr.out.below hb1 (by omega))
    have HE1 := Lib.hid (HE0.out.step (hb1.mono (by omega)))
    have H1 := Lib.hid (H0.out.trans (hb1.mono (by omega)))
    clear hb1 HB0 HR0 HRr HE0 r0 r1 r2 r3 r4
    rw [hV] at hs0R hs1R lB
    try rw [hV]
    have hwV : w.heap.size + 2 ≤ V := by have := H0.out.size; omega
    clear hV H0
    generalize W0.alloc (.cells #[.int .i64 k, .int .i64 0, .int .i64 0, .string ⟨#[]⟩, .slice none 0 0] 26) = W1 at *
    have lV1 := HVn.out.lt
    obtain ⟨r0, r1, r2, r3, r4⟩ := HB1.out.cells5
    have lB1 := HB1.out.lt
    go_wp2_with fail
    go_loopw [31] (fun cv wr => ∃ (j : Nat) (ts : List T) (ar : Option Addr) (cr : Nat), cv = .int .i64 j ∧ j ≤ l.length ∧ Hid (nuL m true (l.take j) = ts) ∧ Hid (ts.length = j) ∧ Hid (Is wr V 26 #[.int .i64 k, .int .i64 0, .int .i64 0, .string ⟨#[]⟩, .slice ar ts.length cr]) ∧ Hid (App TV 5 26 True wr (V + 1) wr.heap.size ar cr ts) ∧ Hid (Below V W1 wr)) (fun cv _ => l.length - (intOf cv).toNat)
    case atStart => exact ⟨0, [], none, 0, rfl, Nat.zero_le _, Lib.hid rfl, Lib.hid rfl, HVn, Lib.hid (App.nil _ _ _), Lib.hid (Below.refl _ _)⟩
    case round =>
      clear HVn
      obtain ⟨j, ts, ar, cr, rfl, hj, HTS, HTL, HV, HA, HBR⟩ := hrel
      have hbs := HBR.out.size
      have hwr : V < wr.heap.size := HV.out.lt
      by_cases hlt : j < l.length
      · have hltz : (j : Int) < (l.length : Int) := by omega
        obtain ⟨b, o, a2, cap2, rfl, hbl, d0, d1, d2, d3, d4, hwf, hq⟩ := (HRr1.out.below HBR.out (by omega)).get j hlt
        obtain ⟨r0, r1, r2, r3, r4⟩ := (HB1.out.below HBR.out lB).cells5
        have hlb : b < wr.heap.size := by omega
        have hlw : w.heap.size < wr.heap.size := by omega
        have HSU := Lib.hid (nuL_succ m l true j hlt)
        have hmem : l[j] ∈ l := List.getElem_mem hlt
        generalize l[j] = u at *
        have HWJ := Lib.hid hwf; have HQJ := Lib.hid hq; have HMEM := Lib.hid hmem
        clear hwf hq hmem
        have hblB : B ≤ wr.heap.size := by omega
        go_upto_region 10 with (fail)
        have hbx := below1 wr (.cells (cV u a2 cap2) 26)
        have HX := Lib.hid (Is.new wr (cV u a2 cap2) 26)
        have HV2 := Lib.hid (HV.out.below hbx hwr)
        have HA2 := Lib.hid (show App TV 5 26 True (wr.alloc (.cells (cV u a2 cap2) 26)) (V + 1) (wr.alloc (.cells (cV u a2 cap2) 26)).heap.size ar cr ts from (HA.out.below TV.elem hbx (Nat.le_refl _)).more (Nat.le_refl _) (by simp))
        have HBX := Lib.hid (HBR.out.trans (hbx.mono (by omega)))
        have HQ := Lib.hid (HQJ.out.below hbx hblB)
        have HE := Lib.hid (HE1.out.step (HBX.out.mono (by omega)))
        have HB2 := Lib.hid (HB1.out.below HBX.out lB)
        clear HV HA HQJ hbx d0 d1 d2 d3 d4 r0 r1 r2 r3 r4 HBR
        have HV := HV2; have HA := HA2; clear HV2 HA2
        obtain ⟨X, hX⟩ : ∃ X, wr.heap.size = X := ⟨_, rfl⟩
        rw [hX] at HX
        try rw [hX]
        have hVX : V < X := by omega
        clear hX
        generalize wr.alloc (.cells (cV u a2 cap2) 26) = wx at *
        obtain ⟨x0, x1, x2, x3, x4⟩ := HX.out.cells5
        have lX := HX.out.lt
        obtain ⟨r0, r1, r2, r3, r4⟩ := HB2.out.cells5
        have lB2 := HB2.out.lt
        have hBx : B ≤ wx.heap.size := by omega
        have hVx : V + 1 ≤ wx.heap.size := by omega
        have htl : ts.length ≤ 1048576 := by have := HTL.out; omega
        rcases (show ((k == 10) = true ∧ ((j : Int) % 2 == 0) = true ∧ (k = 10 ∧ j % 2 = 0)) ∨ (((k == 10) = true ∧ ((j : Int) % 2 == 0) = false) ∧ ¬ (k = 10 ∧ j % 2 = 0)) ∨ ((k == 10) = false ∧ ¬ (k = 10 ∧ j % 2 = 0)) from by
          by_cases h10 : k = 10
          · by_cases hj2 : j % 2 = 0
            · exact Or.inl ⟨by simpa using h10, by simp; omega, h10, hj2⟩
            · exact Or.inr (Or.inl ⟨⟨by simpa using h10, by simp; omega⟩, fun h => hj2 h.2⟩)
          · exact Or.inr (Or.inr ⟨by simpa using h10, fun h => h10 h.1⟩)) with ⟨hg0, hg1, hc⟩ | hrest
        · obtain ⟨y, hy⟩ : ∃ y, nfT u = y := ⟨_, rfl⟩
          have HSU2 := Lib.hid (show nuL m true (l.take (j + 1)) = nuL m true (l.take j) ++ [y] from by
            rw [HSU.out, ← hy, if_pos hc.2, ← HM.out, decide_eq_true hc.1, nuE_name (HOC.out u HMEM.out)])
          have HCALL := Lib.hid (show ∀ W : World, Rr W B a2 cap2 u.l → Env B W → B ≤ W.heap.size → Calls Tryz.prog 27 #[.agg (cV u a2 cap2)] W fun e w' => ∃ a' cap', e = .returned (.agg (cV y a' cap')) ∧ Wf y ∧ Own w' W.heap.size w'.heap.size a' cap' y.l ∧ Below W.heap.size W w' from fun W h1 h2 h3 => by rw [← hy]; exact INF.out u HMEM.out a2 cap2 B W h1 HWJ.out h2 h3)
          clear HSU hc hy
          have HSU := HSU2; clear HSU2
          focus
            go_upto_region 11 with (fail)
            have HVD := HV; have ff := fun i => HV.out.frozen i
            obtain ⟨v0, v1, v2, v3, v4⟩ := HV.out.cells5
            have lV := HV.out.lt
            refine wp_region_held_drew (S := fun _ => True) (by kernel_rfl) trivial (fun hHeld => ?_)
            refine wpAnyH_take (i := 0) (oi := ⟨some 44, _, _, _, _, _⟩) (v := ?_) rfl (by kernel_rfl) (by kernel_rfl) (by kernel_rfl) (fun _ _ _ h => h) (Or.inl ⟨by rfl, ?_⟩) (by assumption) ?_
            rotate_left 1
            · (intro w hSw; (try dsimp only at hSw); go_simp; try (with_reducible rfl))
            try simp only [Act.put, List.setIfInBounds_toArray, List.set_cons_zero, List.set_cons_succ]
            refine wpAnyH_ready (rs := [1, 2]) (by kernel_rfl) (by simp) ?_
            refine AllReadyH.cons (o := ⟨some 45, _, _, _, _, _⟩) rfl (fun K hK => ?_) ?_
            focus (go_simp; go_wp2_with fail; refine hK.out _ _ trivial (fun hHeld => ?_); clear hK K; try simp only [Act.put, List.setIfInBounds_toArray, List.set_cons_zero, List.set_cons_succ])
            refine wpAnyH_ready (rs := [2]) (by kernel_rfl) (by simp) ?_
            refine AllReadyH.cons (o := ⟨some 46, _, _, _, _, _⟩) rfl (fun K hK => ?_) AllReadyH.nil
            focus (go_simp; go_wp2_with fail; refine hK.out _ _ trivial (fun hHeld => ?_); clear hK K; try simp only [Act.put, List.setIfInBounds_toArray, List.set_cons_zero, List.set_cons_succ])
            refine wpAnyH_ready (rs := [3]) (by kernel_rfl) (by simp) ?_
            refine AllReadyH.cons (o := ⟨some 47, _, _, _, _, _⟩) rfl (fun K hK => ?_) AllReadyH.nil
            focus (go_simp; (first | (go_at_call 27; refine (HCALL.out wx.drew (HQ.out.below ((Below.refl B wx).drew) (Nat.le_refl _)) (HE.out.step ((Below.refl B wx).drew)) (by simp only [World.size_drew]; omega)).mono ?_; rintro e w5 ⟨a5, c5, rfl, hwf5, hown5, hb5⟩; have hb5' : Below wx.heap.size wx w5 := ((Below.refl wx.heap.size wx).drew).trans (hb5.mono (by simp)); have HB5 := Lib.hid hb5'; have hs5 := hb5'.size; have hx5 := HV.out.below hb5' lV; have ff5 := (fun i => hx5.frozen i); have lg5 := hx5.lt; obtain ⟨v0, v1, v2, v3, v4⟩ := hx5.cells5; obtain ⟨G, g1, g2, g3⟩ := hown5; (simp only [World.size_drew] at g3)) | (obtain ⟨a6, c6, w6, hrun, happ6, hb6, hout6, hsz6⟩ := run_app (P := Tryz.prog) (w5.alloc (.cells (cV y a5 c5) 26)) TV.elem 24 24 (.agg zV) 64 Tryz.underlying24 info_Val rfl (V + 1) wx.heap.size ar cr ts ((HA.out.below TV.elem HB5.out (Nat.le_refl _)).below TV.elem (below1 w5 _) (by omega)) (by simp; omega) (by omega) (some ⟨w5.heap.size, 0, none⟩) 1 [y] G (Srcs.one (TV.box 26 g1 hwf5 (fun f hf => (g3 f hf).2.2.lt))) g2 (fun f hf => ⟨(g3 f hf).1, by have := (g3 f hf).2.1; simp; omega, (g3 f hf).2.2.alloc _⟩) (by simp [maxLen]; omega) (by simp; omega); obtain ⟨ts3, hts3⟩ : ∃ ts3, ts ++ [y] = ts3 := ⟨_, rfl⟩; rw [hts3] at hrun happ6; have HT3 := Lib.hid hts3; clear hts3; refine step_append_run _ rfl _ _ _ _ rfl _ _ rfl rfl _ _ hrun ?_; have hx6 := (hx5.alloc (.cells (cV y a5 c5) 26)).agree (hout6 V (by simp; omega) (fun k hk e => by have := (HA.out.row k hk).1; omega)); have ff6 := (fun i => hx6.frozen i); have lg6 := hx6.lt; obtain ⟨y0, y1, y2, y3, y4⟩ := hx6.cells5)); go_wp2_with fail; refine hK.out _ _ trivial (fun hHeld => ?_); clear hK K; try simp only [Act.put, List.setIfInBounds_toArray, List.set_cons_zero, List.set_cons_succ])
            refine wpAnyH_ready (rs := [4]) (by kernel_rfl) (by simp) ?_
            refine AllReadyH.cons (o := ⟨some 48, _, _, _, _, _⟩) rfl (fun K hK => ?_) AllReadyH.nil
            focus (go_simp; go_wp2_with fail; refine hK.out _ _ trivial (fun hHeld => ?_); clear hK K; try simp only [Act.put, List.setIfInBounds_toArray, List.set_cons_zero, List.set_cons_succ])
            refine wpAnyH_ready (rs := [5]) (by kernel_rfl) (by simp) ?_
            refine AllReadyH.cons (o := ⟨some 49, _, _, _, _, _⟩) rfl (fun K hK => ?_) AllReadyH.nil
            focus ((first | (go_at_call 27; refine (HCALL.out wx.drew (HQ.out.below ((Below.refl B wx).drew) (Nat.le_refl _)) (HE.out.step ((Below.refl B wx).drew)) (by simp only [World.size_drew]; omega)).mono ?_; rintro e w5 ⟨a5, c5, rfl, hwf5, hown5, hb5⟩; have hb5' : Below wx.heap.size wx w5 := ((Below.refl wx.heap.size wx).drew).trans (hb5.mono (by simp)); have HB5 := Lib.hid hb5'; have hs5 := hb5'.size; have hx5 := HV.out.below hb5' lV; have ff5 := (fun i => hx5.frozen i); have lg5 := hx5.lt; obtain ⟨v0, v1, v2, v3, v4⟩ := hx5.cells5; obtain ⟨G, g1, g2, g3⟩ := hown5; (simp only [World.size_drew] at g3)) | (obtain ⟨a6, c6, w6, hrun, happ6, hb6, hout6, hsz6⟩ := run_app (P := Tryz.prog) (w5.alloc (.cells (cV y a5 c5) 26)) TV.elem 24 24 (.agg zV) 64 Tryz.underlying24 info_Val rfl (V + 1) wx.heap.size ar cr ts ((HA.out.below TV.elem HB5.out (Nat.le_refl _)).below TV.elem (below1 w5 _) (by omega)) (by simp; omega) (by omega) (some ⟨w5.heap.size, 0, none⟩) 1 [y] G (Srcs.one (TV.box 26 g1 hwf5 (fun f hf => (g3 f hf).2.2.lt))) g2 (fun f hf => ⟨(g3 f hf).1, by have := (g3 f hf).2.1; simp; omega, (g3 f hf).2.2.alloc _⟩) (by simp [maxLen]; omega) (by simp; omega); obtain ⟨ts3, hts3⟩ : ∃ ts3, ts ++ [y] = ts3 := ⟨_, rfl⟩; rw [hts3] at hrun happ6; have HT3 := Lib.hid hts3; clear hts3; refine step_append_run _ rfl _ _ _ _ rfl _ _ rfl rfl _ _ hrun ?_; have hx6 := (hx5.alloc (.cells (cV y a5 c5) 26)).agree (hout6 V (by simp; omega) (fun k hk e => by have := (HA.out.row k hk).1; omega)); have ff6 := (fun i => hx6.frozen i); have lg6 := hx6.lt; obtain ⟨y0, y1, y2, y3, y4⟩ := hx6.cells5)); refine hK.out _ _ trivial (fun hHeld => ?_); clear hK K; try simp only [Act.put, List.setIfInBounds_toArray, List.set_cons_zero, List.set_cons_succ])
            refine wpAnyH_take (i := 6) (oi := ⟨some 50, _, _, _, _, _⟩) (v := ?_) rfl (by kernel_rfl) (by kernel_rfl) (by kernel_rfl) (fun _ _ _ h => h) (Or.inl ⟨by rfl, ?_⟩) (by assumption) ?_
            rotate_left 1
            · (intro w hSw; (try dsimp only at hSw); go_simp; try (with_reducible rfl))
            try simp only [Act.put, List.setIfInBounds_toArray, List.set_cons_zero, List.set_cons_succ]
            refine wpAnyH_ready (rs := [7]) (by kernel_rfl) (by simp) ?_
            refine AllReadyH.cons (o := ⟨none, _, _, _, _, _⟩) rfl (fun K hK => ?_) AllReadyH.nil
            focus (go_simp; go_wp2_with fail; refine hK.out _ _ trivial (fun hHeld => ?_); clear hK K; try simp only [Act.put])
            refine wpAnyH_done (by kernel_rfl) ?_ _
            rotate_left 1
            refine AllReadyH.cons (o := ⟨some 46, _, _, _, _, _⟩) rfl (fun K hK => ?_) AllReadyH.nil
            focus (go_simp; go_wp2_with fail; refine hK.out _ _ trivial (fun hHeld => ?_); clear hK K; try simp only [Act.put, List.setIfInBounds_toArray, List.set_cons_zero, List.set_cons_succ])
            refine wpAnyH_ready (rs := [1, 3]) (by kernel_rfl) (by simp) ?_
            refine AllReadyH.cons (o := ⟨some 45, _, _, _, _, _⟩) rfl (fun K hK => ?_) ?_
            focus (go_simp; go_wp2_with fail; refine hK.out _ _ trivial (fun hHeld => ?_); clear hK K; try simp only [Act.put, List.setIfInBounds_toArray, List.set_cons_zero, List.set_cons_succ])
            refine wpAnyH_ready (rs := [3]) (by kernel_rfl) (by simp) ?_
            refine AllReadyH.cons (o := ⟨some 47, _, _, _, _, _⟩) rfl (fun K hK => ?_) AllReadyH.nil
            focus (go_simp; (first | (go_at_call 27; refine (HCALL.out wx.drew (HQ.out.below ((Below.refl B wx).drew) (Nat.le_refl _)) (HE.out.step ((Below.refl B wx).drew)) (by simp only [World.size_drew]; omega)).mono ?_; rintro e w5 ⟨a5, c5, rfl, hwf5, hown5, hb5⟩; have hb5' : Below wx.heap.size wx w5 := ((Below.refl wx.heap.size wx).drew).trans (hb5.mono (by simp)); have HB5 := Lib.hid hb5'; have hs5 := hb5'.size; have hx5 := HV.out.below hb5' lV; have ff5 := (fun i => hx5.frozen i); have lg5 := hx5.lt; obtain ⟨v0, v1, v2, v3, v4⟩ := hx5.cells5; obtain ⟨G, g1, g2, g3⟩ := hown5; (simp only [World.size_drew] at g3)) | (obtain ⟨a6, c6, w6, hrun, happ6, hb6, hout6, hsz6⟩ := run_app (P := Tryz.prog) (w5.alloc (.cells (cV y a5 c5) 26)) TV.elem 24 24 (.agg zV) 64 Tryz.underlying24 info_Val rfl (V + 1) wx.heap.size ar cr ts ((HA.out.below TV.elem HB5.out (Nat.le_refl _)).below TV.elem (below1 w5 _) (by omega)) (by simp; omega) (by omega) (some ⟨w5.heap.size, 0, none⟩) 1 [y] G (Srcs.one (TV.box 26 g1 hwf5 (fun f hf => (g3 f hf).2.2.lt))) g2 (fun f hf => ⟨(g3 f hf).1, by have := (g3 f hf).2.1; simp; omega, (g3 f hf).2.2.alloc _⟩) (by simp [maxLen]; omega) (by simp; omega); obtain ⟨ts3, hts3⟩ : ∃ ts3, ts ++ [y] = ts3 := ⟨_, rfl⟩; rw [hts3] at hrun happ6; have HT3 := Lib.hid hts3; clear hts3; refine step_append_run _ rfl _ _ _ _ rfl _ _ rfl rfl _ _ hrun ?_; have hx6 := (hx5.alloc (.cells (cV y a5 c5) 26)).agree (hout6 V (by simp; omega) (fun k hk e => by have := (HA.out.row k hk).1; omega)); have ff6 := (fun i => hx6.frozen i); have lg6 := hx6.lt; obtain ⟨y0, y1, y2, y3, y4⟩ := hx6.cells5)); go_wp2_with fail; refine hK.out _ _ trivial (fun hHeld => ?_); clear hK K; try simp only [Act.put, List.setIfInBounds_toArray, List.set_cons_zero, List.set_cons_succ])
            refine wpAnyH_ready (rs := [4]) (by kernel_rfl) (by simp) ?_
            refine AllReadyH.cons (o := ⟨some 48, _, _, _, _, _⟩) rfl (fun K hK => ?_) AllReadyH.nil
            focus (go_simp; go_wp2_with fail; refine hK.out _ _ trivial (fun hHeld => ?_); clear hK K; try simp only [Act.put, List.setIfInBounds_toArray, List.set_cons_zero, List.set_cons_succ])
            refine wpAnyH_ready (rs := [5]) (by kernel_rfl) (by simp) ?_
            refine AllReadyH.cons (o := ⟨some 49, _, _, _, _, _⟩) rfl (fun K hK => ?_) AllReadyH.nil
            focus ((first | (go_at_call 27; refine (HCALL.out wx.drew (HQ.out.below ((Below.refl B wx).drew) (Nat.le_refl _)) (HE.out.step ((Below.refl B wx).drew)) (by simp only [World.size_drew]; omega)).mono ?_; rintro e w5 ⟨a5, c5, rfl, hwf5, hown5, hb5⟩; have hb5' : Below wx.heap.size wx w5 := ((Below.refl wx.heap.size wx).drew).trans (hb5.mono (by simp)); have HB5 := Lib.hid hb5'; have hs5 := hb5'.size; have hx5 := HV.out.below hb5' lV; have ff5 := (fun i => hx5.frozen i); have lg5 := hx5.lt; obtain ⟨v0, v1, v2, v3, v4⟩ := hx5.cells5; obtain ⟨G, g1, g2, g3⟩ := hown5; (simp only [World.size_drew] at g3)) | (obtain ⟨a6, c6, w6, hrun, happ6, hb6, hout6, hsz6⟩ := run_app (P := Tryz.prog) (w5.alloc (.cells (cV y a5 c5) 26)) TV.elem 24 24 (.agg zV) 64 Tryz.underlying24 info_Val rfl (V + 1) wx.heap.size ar cr ts ((HA.out.below TV.elem HB5.out (Nat.le_refl _)).below TV.elem (below1 w5 _) (by omega)) (by simp; omega) (by omega) (some ⟨w5.heap.size, 0, none⟩) 1 [y] G (Srcs.one (TV.box 26 g1 hwf5 (fun f hf => (g3 f hf).2.2.lt))) g2 (fun f hf => ⟨(g3 f hf).1, by have := (g3 f hf).2.1; simp; omega, (g3 f hf).2.2.alloc _⟩) (by simp [maxLen]; omega) (by simp; omega); obtain ⟨ts3, hts3⟩ : ∃ ts3, ts ++ [y] = ts3 := ⟨_, rfl⟩; rw [hts3] at hrun happ6; have HT3 := Lib.hid hts3; clear hts3; refine step_append_run _ rfl _ _ _ _ rfl _ _ rfl rfl _ _ hrun ?_; have hx6 := (hx5.alloc (.cells (cV y a5 c5) 26)).agree (hout6 V (by simp; omega) (fun k hk e => by have := (HA.out.row k hk).1; omega)); have ff6 := (fun i => hx6.frozen i); have lg6 := hx6.lt; obtain ⟨y0, y1, y2, y3, y4⟩ := hx6.cells5)); refine hK.out _ _ trivial (fun hHeld => ?_); clear hK K; try simp only [Act.put, List.setIfInBounds_toArray, List.set_cons_zero, List.set_cons_succ])
            refine wpAnyH_take (i := 6) (oi := ⟨some 50, _, _, _, _, _⟩) (v := ?_) rfl (by kernel_rfl) (by kernel_rfl) (by kernel_rfl) (fun _ _ _ h => h) (Or.inl ⟨by rfl, ?_⟩) (by assumption) ?_
            rotate_left 1
            · (intro w hSw; (try dsimp only at hSw); go_simp; try (with_reducible rfl))
            try simp only [Act.put, List.setIfInBounds_toArray, List.set_cons_zero, List.set_cons_succ]
            refine wpAnyH_ready (rs := [7]) (by kernel_rfl) (by simp) ?_
            refine AllReadyH.cons (o := ⟨none, _, _, _, _, _⟩) rfl (fun K hK => ?_) AllReadyH.nil
            focus (go_simp; go_wp2_with fail; refine hK.out _ _ trivial (fun hHeld => ?_); clear hK K; try simp only [Act.put])
            refine wpAnyH_done (by kernel_rfl) ?_ _
            rotate_left 1
            refine AllReadyH.cons (o := ⟨some 47, _, _, _, _, _⟩) rfl (fun K hK => ?_) AllReadyH.nil
            focus (go_simp; (first | (go_at_call 27; refine (HCALL.out wx.drew (HQ.out.below ((Below.refl B wx).drew) (Nat.le_refl _)) (HE.out.step ((Below.refl B wx).drew)) (by simp only [World.size_drew]; omega)).mono ?_; rintro e w5 ⟨a5, c5, rfl, hwf5, hown5, hb5⟩; have hb5' : Below wx.heap.size wx w5 := ((Below.refl wx.heap.size wx).drew).trans (hb5.mono (by simp)); have HB5 := Lib.hid hb5'; have hs5 := hb5'.size; have hx5 := HV.out.below hb5' lV; have ff5 := (fun i => hx5.frozen i); have lg5 := hx5.lt; obtain ⟨v0, v1, v2, v3, v4⟩ := hx5.cells5; obtain ⟨G, g1, g2, g3⟩ := hown5; (simp only [World.size_drew] at g3)) | (obtain ⟨a6, c6, w6, hrun, happ6, hb6, hout6, hsz6⟩ := run_app (P := Tryz.prog) (w5.alloc (.cells (cV y a5 c5) 26)) TV.elem 24 24 (.agg zV) 64 Tryz.underlying24 info_Val rfl (V + 1) wx.heap.size ar cr ts ((HA.out.below TV.elem HB5.out (Nat.le_refl _)).below TV.elem (below1 w5 _) (by omega)) (by simp; omega) (by omega) (some ⟨w5.heap.size, 0, none⟩) 1 [y] G (Srcs.one (TV.box 26 g1 hwf5 (fun f hf => (g3 f hf).2.2.lt))) g2 (fun f hf => ⟨(g3 f hf).1, by have := (g3 f hf).2.1; simp; omega, (g3 f hf).2.2.alloc _⟩) (by simp [maxLen]; omega) (by simp; omega); obtain ⟨ts3, hts3⟩ : ∃ ts3, ts ++ [y] = ts3 := ⟨_, rfl⟩; rw [hts3] at hrun happ6; have HT3 := Lib.hid hts3; clear hts3; refine step_append_run _ rfl _ _ _ _ rfl _ _ rfl rfl _ _ hrun ?_; have hx6 := (hx5.alloc (.cells (cV y a5 c5) 26)).agree (hout6 V (by simp; omega) (fun k hk e => by have := (HA.out.row k hk).1; omega)); have ff6 := (fun i => hx6.frozen i); have lg6 := hx6.lt; obtain ⟨y0, y1, y2, y3, y4⟩ := hx6.cells5)); go_wp2_with fail; refine hK.out _ _ trivial (fun hHeld => ?_); clear hK K; try simp only [Act.put, List.setIfInBounds_toArray, List.set_cons_zero, List.set_cons_succ])
            refine wpAnyH_ready (rs := [1, 4]) (by kernel_rfl) (by simp) ?_
            refine AllReadyH.cons (o := ⟨some 45, _, _, _, _, _⟩) rfl (fun K hK => ?_) ?_
            focus (go_simp; go_wp2_with fail; refine hK.out _ _ trivial (fun hHeld => ?_); clear hK K; try simp only [Act.put, List.setIfInBounds_toArray, List.set_cons_zero, List.set_cons_succ])
            refine wpAnyH_ready (rs := [4]) (by kernel_rfl) (by simp) ?_
            refine AllReadyH.cons (o := ⟨some 48, _, _, _, _, _⟩) rfl (fun K hK => ?_) AllReadyH.nil
            focus (go_simp; go_wp2_with fail; refine hK.out _ _ trivial (fun hHeld => ?_); clear hK K; try simp only [Act.put, List.setIfInBounds_toArray, List.set_cons_zero, List.set_cons_succ])
            refine wpAnyH_ready (rs := [5]) (by kernel_rfl) (by simp) ?_
            refine AllReadyH.cons (o := ⟨some 49, _, _, _, _, _⟩) rfl (fun K hK => ?_) AllReadyH.nil
            focus ((first | (go_at_call 27; refine (HCALL.out wx.drew (HQ.out.below ((Below.refl B wx).drew) (Nat.le_refl _)) (HE.out.step ((Below.refl B wx).drew)) (by simp only [World.size_drew]; omega)).mono ?_; rintro e w5 ⟨a5, c5, rfl, hwf5, hown5, hb5⟩; have hb5' : Below wx.heap.size wx w5 := ((Below.refl wx.heap.size wx).drew).trans (hb5.mono (by simp)); have HB5 := Lib.hid hb5'; have hs5 := hb5'.size; have hx5 := HV.out.below hb5' lV; have ff5 := (fun i => hx5.frozen i); have lg5 := hx5.lt; obtain ⟨v0, v1, v2, v3, v4⟩ := hx5.cells5; obtain ⟨G, g1, g2, g3⟩ := hown5; (simp only [World.size_drew] at g3)) | (obtain ⟨a6, c6, w6, hrun, happ6, hb6, hout6, hsz6⟩ := run_app (P := Tryz.prog) (w5.alloc (.cells (cV y a5 c5) 26)) TV.elem 24 24 (.agg zV) 64 Tryz.underlying24 info_Val rfl (V + 1) wx.heap.size ar cr ts ((HA.out.below TV.elem HB5.out (Nat.le_refl _)).below TV.elem (below1 w5 _) (by omega)) (by simp; omega) (by omega) (some ⟨w5.heap.size, 0, none⟩) 1 [y] G (Srcs.one (TV.box 26 g1 hwf5 (fun f hf => (g3 f hf).2.2.lt))) g2 (fun f hf => ⟨(g3 f hf).1, by have := (g3 f hf).2.1; simp; omega, (g3 f hf).2.2.alloc _⟩) (by simp [maxLen]; omega) (by simp; omega); obtain ⟨ts3, hts3⟩ : ∃ ts3, ts ++ [y] = ts3 := ⟨_, rfl⟩; rw [hts3] at hrun happ6; have HT3 := Lib.hid hts3; clear hts3; refine step_append_run _ rfl _ _ _ _ rfl _ _ rfl rfl _ _ hrun ?_; have hx6 := (hx5.alloc (.cells (cV y a5 c5) 26)).agree (hout6 V (by simp; omega) (fun k hk e => by have := (HA.out.row k hk).1; omega)); have ff6 := (fun i => hx6.frozen i); have lg6 := hx6.lt; obtain ⟨y0, y1, y2, y3, y4⟩ := hx6.cells5)); refine hK.out _ _ trivial (fun hHeld => ?_); clear hK K; try simp only [Act.put, List.setIfInBounds_toArray, List.set_cons_zero, List.set_cons_succ])
            refine wpAnyH_take (i := 6) (oi := ⟨some 50, _, _, _, _, _⟩) (v := ?_) rfl (by kernel_rfl) (by kernel_rfl) (by kernel_rfl) (fun _ _ _ h => h) (Or.inl ⟨by rfl, ?_⟩) (by assumption) ?_
            rotate_left 1
            · (intro w hSw; (try dsimp only at hSw); go_simp; try (with_reducible rfl))
            try simp only [Act.put, List.setIfInBounds_toArray, List.set_cons_zero, List.set_cons_succ]
            refine wpAnyH_ready (rs := [7]) (by kernel_rfl) (by simp) ?_
            refine AllReadyH.cons (o := ⟨none, _, _, _, _, _⟩) rfl (fun K hK => ?_) AllReadyH.nil
            focus (go_simp; go_wp2_with fail; refine hK.out _ _ trivial (fun hHeld => ?_); clear hK K; try simp only [Act.put])
            refine wpAnyH_done (by kernel_rfl) ?_ _
            rotate_left 1
            refine AllReadyH.cons (o := ⟨some 48, _, _, _, _, _⟩) rfl (fun K hK => ?_) AllReadyH.nil
            focus (go_simp; go_wp2_with fail; refine hK.out _ _ trivial (fun hHeld => ?_); clear hK K; try simp only [Act.put, List.setIfInBounds_toArray, List.set_cons_zero, List.set_cons_succ])
            refine wpAnyH_ready (rs := [1]) (by kernel_rfl) (by simp) ?_
            refine AllReadyH.cons (o := ⟨some 45, _, _, _, _, _⟩) rfl (fun K hK => ?_) AllReadyH.nil
            focus (go_simp; go_wp2_with fail; refine hK.out _ _ trivial (fun hHeld => ?_); clear hK K; try simp only [Act.put, List.setIfInBounds_toArray, List.set_cons_zero, List.set_cons_succ])
            refine wpAnyH_ready (rs := [5]) (by kernel_rfl) (by simp) ?_
            refine AllReadyH.cons (o := ⟨some 49, _, _, _, _, _⟩) rfl (fun K hK => ?_) AllReadyH.nil
            focus ((first | (go_at_call 27; refine (HCALL.out wx.drew (HQ.out.below ((Below.refl B wx).drew) (Nat.le_refl _)) (HE.out.step ((Below.refl B wx).drew)) (by simp only [World.size_drew]; omega)).mono ?_; rintro e w5 ⟨a5, c5, rfl, hwf5, hown5, hb5⟩; have hb5' : Below wx.heap.size wx w5 := ((Below.refl wx.heap.size wx).drew).trans (hb5.mono (by simp)); have HB5 := Lib.hid hb5'; have hs5 := hb5'.size; have hx5 := HV.out.below hb5' lV; have ff5 := (fun i => hx5.frozen i); have lg5 := hx5.lt; obtain ⟨v0, v1, v2, v3, v4⟩ := hx5.cells5; obtain ⟨G, g1, g2, g3⟩ := hown5; (simp only [World.size_drew] at g3)) | (obtain ⟨a6, c6, w6, hrun, happ6, hb6, hout6, hsz6⟩ := run_app (P := Tryz.prog) (w5.alloc (.cells (cV y a5 c5) 26)) TV.elem 24 24 (.agg zV) 64 Tryz.underlying24 info_Val rfl (V + 1) wx.heap.size ar cr ts ((HA.out.below TV.elem HB5.out (Nat.le_refl _)).below TV.elem (below1 w5 _) (by omega)) (by simp; omega) (by omega) (some ⟨w5.heap.size, 0, none⟩) 1 [y] G (Srcs.one (TV.box 26 g1 hwf5 (fun f hf => (g3 f hf).2.2.lt))) g2 (fun f hf => ⟨(g3 f hf).1, by have := (g3 f hf).2.1; simp; omega, (g3 f hf).2.2.alloc _⟩) (by simp [maxLen]; omega) (by simp; omega); obtain ⟨ts3, hts3⟩ : ∃ ts3, ts ++ [y] = ts3 := ⟨_, rfl⟩; rw [hts3] at hrun happ6; have HT3 := Lib.hid hts3; clear hts3; refine step_append_run _ rfl _ _ _ _ rfl _ _ rfl rfl _ _ hrun ?_; have hx6 := (hx5.alloc (.cells (cV y a5 c5) 26)).agree (hout6 V (by simp; omega) (fun k hk e => by have := (HA.out.row k hk).1; omega)); have ff6 := (fun i => hx6.frozen i); have lg6 := hx6.lt; obtain ⟨y0, y1, y2, y3, y4⟩ := hx6.cells5)); refine hK.out _ _ trivial (fun hHeld => ?_); clear hK K; try simp only [Act.put, List.setIfInBounds_toArray, List.set_cons_zero, List.set_cons_succ])
            refine wpAnyH_take (i := 6) (oi := ⟨some 50, _, _, _, _, _⟩) (v := ?_) rfl (by kernel_rfl) (by kernel_rfl) (by kernel_rfl) (fun _ _ _ h => h) (Or.inl ⟨by rfl, ?_⟩) (by assumption) ?_
            rotate_left 1
            · (intro w hSw; (try dsimp only at hSw); go_simp; try (with_reducible rfl))
            try simp only [Act.put, List.setIfInBounds_toArray, List.set_cons_zero, List.set_cons_succ]
            refine wpAnyH_ready (rs := [7]) (by kernel_rfl) (by simp) ?_
            refine AllReadyH.cons (o := ⟨none, _, _, _, _, _⟩) rfl (fun K hK => ?_) AllReadyH.nil
            focus (go_simp; go_wp2_with fail; refine hK.out _ _ trivial (fun hHeld => ?_); clear hK K; try simp only [Act.put])
            refine wpAnyH_done (by kernel_rfl) ?_ _
            all_goals
              have HV7 := Lib.hid (hx6.set 4 (.slice a6 ts3.length c6))
              have HA7 := Lib.hid (show App TV 5 26 True (w6.setCell ⟨V, 4, none⟩ (.slice a6 ts3.length c6)) (V + 1) (w6.setCell ⟨V, 4, none⟩ (.slice a6 ts3.length c6)).heap.size a6 c6 ts3 from by
                rw [size_set]; exact happ6.agree TV.elem (fun f hf _ => heap_miss _ _ _ _ (by omega) _))
              have HB7 := Lib.hid (show Below V W1 (w6.setCell ⟨V, 4, none⟩ (.slice a6 ts3.length c6)) from
                ((((HBX.out.trans (HB5.out.mono (by omega))).trans ((below1 w5 _).mono (by omega))).trans (hb6.mono (by omega))).trans (below1s w6 V 4 _)))
              go_upto_region 13 with (fail)
              clear HB5 hx5 hx6 ff5 ff6 lg5 lg6 y0 y1 y2 y3 y4 hout6 hsz6 hrun hb6 g1 g2 g3 hwf5 hb5 hb5' hs5 happ6 HV HA HX HCALL HQ HE HBX ff v0 v1 v2 v3 v4 lV
              generalize w6.setCell ⟨V, 4, none⟩ (.slice a6 ts3.length c6) = w7 at *
              have HLN := Lib.hid (show ts3.length = j + 1 from by rw [← HT3.out, List.length_append, HTL.out]; rfl)
              have HTS3 := Lib.hid (show nuL m true (l.take (j + 1)) = ts3 from by rw [HSU.out, HTS.out, HT3.out])
              go_wp2_with fail
              go_roundw
              case rel => exact ⟨j + 1, ts3, a6, c6, by go_num, by omega, HTS3, HLN, HV7, HA7, HB7⟩
              case measure => simp [intOf]; omega
        · obtain ⟨y, hy⟩ : ∃ y, nuT u = y := ⟨_, rfl⟩
          have HSU2 := Lib.hid (show nuL m true (l.take (j + 1)) = nuL m true (l.take j) ++ [y] from by
            have hc : ¬ (k = 10 ∧ j % 2 = 0) := by rcases hrest with h | h <;> exact h.2
            rw [HSU.out, ← hy, ← HM.out]
            unfold nuE
            by_cases h10 : k = 10
            · rw [if_neg (show ¬ j % 2 = 0 from fun h => hc ⟨h10, h⟩), if_neg (by simp)]
            · rw [decide_eq_false h10, if_neg (by simp)])
          have HCALL := Lib.hid (show ∀ W : World, Rr W B a2 cap2 u.l → Env B W → B ≤ W.heap.size → Calls Tryz.prog 81 #[.agg (cV u a2 cap2)] W fun e w' => ∃ a' cap', e = .returned (.agg (cV y a' cap')) ∧ Wf y ∧ Own w' W.heap.size w'.heap.size a' cap' y.l ∧ Below W.heap.size W w' from fun W h1 h2 h3 => by rw [← hy]; exact IH.out u HMEM.out a2 cap2 B W h1 HWJ.out h2 h3)
          clear HSU hy
          have HSU := HSU2; clear HSU2
          rcases hrest with ⟨⟨hg0, hg1⟩, _⟩ | ⟨hg1, _⟩
          all_goals
            skip
            go_upto_region 12 with (fail)
            have HVD := HV; have ff := fun i => HV.out.frozen i
            obtain ⟨v0, v1, v2, v3, v4⟩ := HV.out.cells5
            have lV := HV.out.lt
            refine wp_region_held_drew (S := fun _ => True) (by kernel_rfl) trivial (fun hHeld => ?_)
            refine wpAnyH_take (i := 0) (oi := ⟨some 51, _, _, _, _, _⟩) (v := ?_) rfl (by kernel_rfl) (by kernel_rfl) (by kernel_rfl) (fun _ _ _ h => h) (Or.inl ⟨by rfl, ?_⟩) (by assumption) ?_
            rotate_left 1
            · (intro w hSw; (try dsimp only at hSw); go_simp; try (with_reducible rfl))
            try simp only [Act.put, List.setIfInBounds_toArray, List.set_cons_zero, List.set_cons_succ]
            refine wpAnyH_ready (rs := [1, 2]) (by kernel_rfl) (by simp) ?_
            refine AllReadyH.cons (o := ⟨some 52, _, _, _, _, _⟩) rfl (fun K hK => ?_) ?_
            focus (go_simp; go_wp2_with fail; refine hK.out _ _ trivial (fun hHeld => ?_); clear hK K; try simp only [Act.put, List.setIfInBounds_toArray, List.set_cons_zero, List.set_cons_succ])
            refine wpAnyH_ready (rs := [2]) (by kernel_rfl) (by simp) ?_
            refine AllReadyH.cons (o := ⟨some 53, _, _, _, _, _⟩) rfl (fun K hK => ?_) AllReadyH.nil
            focus (go_simp; go_wp2_with fail; refine hK.out _ _ trivial (fun hHeld => ?_); clear hK K; try simp only [Act.put, List.setIfInBounds_toArray, List.set_cons_zero, List.set_cons_succ])
            refine wpAnyH_ready (rs := [3]) (by kernel_rfl) (by simp) ?_
            refine AllReadyH.cons (o := ⟨some 54, _, _, _, _, _⟩) rfl (fun K hK => ?_) AllReadyH.nil
            focus (go_simp; (first | (go_at_call 81; refine (HCALL.out wx.drew (HQ.out.below ((Below.refl B wx).drew) (Nat.le_refl _)) (HE.out.step ((Below.refl B wx).drew)) (by simp only [World.size_drew]; omega)).mono ?_; rintro e w5 ⟨a5, c5, rfl, hwf5, hown5, hb5⟩; have hb5' : Below wx.heap.size wx w5 := ((Below.refl wx.heap.size wx).drew).trans (hb5.mono (by simp)); have HB5 := Lib.hid hb5'; have hs5 := hb5'.size; have hx5 := HV.out.below hb5' lV; have ff5 := (fun i => hx5.frozen i); have lg5 := hx5.lt; obtain ⟨v0, v1, v2, v3, v4⟩ := hx5.cells5; obtain ⟨G, g1, g2, g3⟩ := hown5; (simp only [World.size_drew] at g3)) | (obtain ⟨a6, c6, w6, hrun, happ6, hb6, hout6, hsz6⟩ := run_app (P := Tryz.prog) (w5.alloc (.cells (cV y a5 c5) 26)) TV.elem 24 24 (.agg zV) 64 Tryz.underlying24 info_Val rfl (V + 1) wx.heap.size ar cr ts ((HA.out.below TV.elem HB5.out (Nat.le_refl _)).below TV.elem (below1 w5 _) (by omega)) (by simp; omega) (by omega) (some ⟨w5.heap.size, 0, none⟩) 1 [y] G (Srcs.one (TV.box 26 g1 hwf5 (fun f hf => (g3 f hf).2.2.lt))) g2 (fun f hf => ⟨(g3 f hf).1, by have := (g3 f hf).2.1; simp; omega, (g3 f hf).2.2.alloc _⟩) (by simp [maxLen]; omega) (by simp; omega); obtain ⟨ts3, hts3⟩ : ∃ ts3, ts ++ [y] = ts3 := ⟨_, rfl⟩; rw [hts3] at hrun happ6; have HT3 := Lib.hid hts3; clear hts3; refine step_append_run _ rfl _ _ _ _ rfl _ _ rfl rfl _ _ hrun ?_; have hx6 := (hx5.alloc (.cells (cV y a5 c5) 26)).agree (hout6 V (by simp; omega) (fun k hk e => by have := (HA.out.row k hk).1; omega)); have ff6 := (fun i => hx6.frozen i); have lg6 := hx6.lt; obtain ⟨y0, y1, y2, y3, y4⟩ := hx6.cells5)); go_wp2_with fail; refine hK.out _ _ trivial (fun hHeld => ?_); clear hK K; try simp only [Act.put, List.setIfInBounds_toArray, List.set_cons_zero, List.set_cons_succ])
            refine wpAnyH_ready (rs := [4]) (by kernel_rfl) (by simp) ?_
            refine AllReadyH.cons (o := ⟨some 55, _, _, _, _, _⟩) rfl (fun K hK => ?_) AllReadyH.nil
            focus (go_simp; go_wp2_with fail; refine hK.out _ _ trivial (fun hHeld => ?_); clear hK K; try simp only [Act.put, List.setIfInBounds_toArray, List.set_cons_zero, List.set_cons_succ])
            refine wpAnyH_ready (rs := [5]) (by kernel_rfl) (by simp) ?_
            refine AllReadyH.cons (o := ⟨some 56, _, _, _, _, _⟩) rfl (fun K hK => ?_) AllReadyH.nil
            focus ((first | (go_at_call 81; refine (HCALL.out wx.drew (HQ.out.below ((Below.refl B wx).drew) (Nat.le_refl _)) (HE.out.step ((Below.refl B wx).drew)) (by simp only [World.size_drew]; omega)).mono ?_; rintro e w5 ⟨a5, c5, rfl, hwf5, hown5, hb5⟩; have hb5' : Below wx.heap.size wx w5 := ((Below.refl wx.heap.size wx).drew).trans (hb5.mono (by simp)); have HB5 := Lib.hid hb5'; have hs5 := hb5'.size; have hx5 := HV.out.below hb5' lV; have ff5 := (fun i => hx5.frozen i); have lg5 := hx5.lt; obtain ⟨v0, v1, v2, v3, v4⟩ := hx5.cells5; obtain ⟨G, g1, g2, g3⟩ := hown5; (simp only [World.size_drew] at g3)) | (obtain ⟨a6, c6, w6, hrun, happ6, hb6, hout6, hsz6⟩ := run_app (P := Tryz.prog) (w5.alloc (.cells (cV y a5 c5) 26)) TV.elem 24 24 (.agg zV) 64 Tryz.underlying24 info_Val rfl (V + 1) wx.heap.size ar cr ts ((HA.out.below TV.elem HB5.out (Nat.le_refl _)).below TV.elem (below1 w5 _) (by omega)) (by simp; omega) (by omega) (some ⟨w5.heap.size, 0, none⟩) 1 [y] G (Srcs.one (TV.box 26 g1 hwf5 (fun f hf => (g3 f hf).2.2.lt))) g2 (fun f hf => ⟨(g3 f hf).1, by have := (g3 f hf).2.1; simp; omega, (g3 f hf).2.2.alloc _⟩) (by simp [maxLen]; omega) (by simp; omega); obtain ⟨ts3, hts3⟩ : ∃ ts3, ts ++ [y] = ts3 := ⟨_, rfl⟩; rw [hts3] at hrun happ6; have HT3 := Lib.hid hts3; clear hts3; refine step_append_run _ rfl _ _ _ _ rfl _ _ rfl rfl _ _ hrun ?_; have hx6 := (hx5.alloc (.cells (cV y a5 c5) 26)).agree (hout6 V (by simp; omega) (fun k hk e => by have := (HA.out.row k hk).1; omega)); have ff6 := (fun i => hx6.frozen i); have lg6 := hx6.lt; obtain ⟨y0, y1, y2, y3, y4⟩ := hx6.cells5)); refine hK.out _ _ trivial (fun hHeld => ?_); clear hK K; try simp only [Act.put, List.setIfInBounds_toArray, List.set_cons_zero, List.set_cons_succ])
            refine wpAnyH_take (i := 6) (oi := ⟨some 57, _, _, _, _, _⟩) (v := ?_) rfl (by kernel_rfl) (by kernel_rfl) (by kernel_rfl) (fun _ _ _ h => h) (Or.inl ⟨by rfl, ?_⟩) (by assumption) ?_
            rotate_left 1
            · (intro w hSw; (try dsimp only at hSw); go_simp; try (with_reducible rfl))
            try simp only [Act.put, List.setIfInBounds_toArray, List.set_cons_zero, List.set_cons_succ]
            refine wpAnyH_ready (rs := [7]) (by kernel_rfl) (by simp) ?_
            refine AllReadyH.cons (o := ⟨none, _, _, _, _, _⟩) rfl (fun K hK => ?_) AllReadyH.nil
            focus (go_simp; go_wp2_with fail; refine hK.out _ _ trivial (fun hHeld => ?_); clear hK K; try simp only [Act.put])
            refine wpAnyH_done (by kernel_rfl) ?_ _
            rotate_left 1
            refine AllReadyH.cons (o := ⟨some 53, _, _, _, _, _⟩) rfl (fun K hK => ?_) AllReadyH.nil
            focus (go_simp; go_wp2_with fail; refine hK.out _ _ trivial (fun hHeld => ?_); clear hK K; try simp only [Act.put, List.setIfInBounds_toArray, List.set_cons_zero, List.set_cons_succ])
            refine wpAnyH_ready (rs := [1, 3]) (by kernel_rfl) (by simp) ?_
            refine AllReadyH.cons (o := ⟨some 52, _, _, _, _, _⟩) rfl (fun K hK => ?_) ?_
            focus (go_simp; go_wp2_with fail; refine hK.out _ _ trivial (fun hHeld => ?_); clear hK K; try simp only [Act.put, List.setIfInBounds_toArray, List.set_cons_zero, List.set_cons_succ])
            refine wpAnyH_ready (rs := [3]) (by kernel_rfl) (by simp) ?_
            refine AllReadyH.cons (o := ⟨some 54, _, _, _, _, _⟩) rfl (fun K hK => ?_) AllReadyH.nil
            focus (go_simp; (first | (go_at_call 81; refine (HCALL.out wx.drew (HQ.out.below ((Below.refl B wx).drew) (Nat.le_refl _)) (HE.out.step ((Below.refl B wx).drew)) (by simp only [World.size_drew]; omega)).mono ?_; rintro e w5 ⟨a5, c5, rfl, hwf5, hown5, hb5⟩; have hb5' : Below wx.heap.size wx w5 := ((Below.refl wx.heap.size wx).drew).trans (hb5.mono (by simp)); have HB5 := Lib.hid hb5'; have hs5 := hb5'.size; have hx5 := HV.out.below hb5' lV; have ff5 := (fun i => hx5.frozen i); have lg5 := hx5.lt; obtain ⟨v0, v1, v2, v3, v4⟩ := hx5.cells5; obtain ⟨G, g1, g2, g3⟩ := hown5; (simp only [World.size_drew] at g3)) | (obtain ⟨a6, c6, w6, hrun, happ6, hb6, hout6, hsz6⟩ := run_app (P := Tryz.prog) (w5.alloc (.cells (cV y a5 c5) 26)) TV.elem 24 24 (.agg zV) 64 Tryz.underlying24 info_Val rfl (V + 1) wx.heap.size ar cr ts ((HA.out.below TV.elem HB5.out (Nat.le_refl _)).below TV.elem (below1 w5 _) (by omega)) (by simp; omega) (by omega) (some ⟨w5.heap.size, 0, none⟩) 1 [y] G (Srcs.one (TV.box 26 g1 hwf5 (fun f hf => (g3 f hf).2.2.lt))) g2 (fun f hf => ⟨(g3 f hf).1, by have := (g3 f hf).2.1; simp; omega, (g3 f hf).2.2.alloc _⟩) (by simp [maxLen]; omega) (by simp; omega); obtain ⟨ts3, hts3⟩ : ∃ ts3, ts ++ [y] = ts3 := ⟨_, rfl⟩; rw [hts3] at hrun happ6; have HT3 := Lib.hid hts3; clear hts3; refine step_append_run _ rfl _ _ _ _ rfl _ _ rfl rfl _ _ hrun ?_; have hx6 := (hx5.alloc (.cells (cV y a5 c5) 26)).agree (hout6 V (by simp; omega) (fun k hk e => by have := (HA.out.row k hk).1; omega)); have ff6 := (fun i => hx6.frozen i); have lg6 := hx6.lt; obtain ⟨y0, y1, y2, y3, y4⟩ := hx6.cells5)); go_wp2_with fail; refine hK.out _ _ trivial (fun hHeld => ?_); clear hK K; try simp only [Act.put, List.setIfInBounds_toArray, List.set_cons_zero, List.set_cons_succ])
            refine wpAnyH_ready (rs := [4]) (by kernel_rfl) (by simp) ?_
            refine AllReadyH.cons (o := ⟨some 55, _, _, _, _, _⟩) rfl (fun K hK => ?_) AllReadyH.nil
            focus (go_simp; go_wp2_with fail; refine hK.out _ _ trivial (fun hHeld => ?_); clear hK K; try simp only [Act.put, List.setIfInBounds_toArray, List.set_cons_zero, List.set_cons_succ])
            refine wpAnyH_ready (rs := [5]) (by kernel_rfl) (by simp) ?_
            refine AllReadyH.cons (o := ⟨some 56, _, _, _, _, _⟩) rfl (fun K hK => ?_) AllReadyH.nil
            focus ((first | (go_at_call 81; refine (HCALL.out wx.drew (HQ.out.below ((Below.refl B wx).drew) (Nat.le_refl _)) (HE.out.step ((Below.refl B wx).drew)) (by simp only [World.size_drew]; omega)).mono ?_; rintro e w5 ⟨a5, c5, rfl, hwf5, hown5, hb5⟩; have hb5' : Below wx.heap.size wx w5 := ((Below.refl wx.heap.size wx).drew).trans (hb5.mono (by simp)); have HB5 := Lib.hid hb5'; have hs5 := hb5'.size; have hx5 := HV.out.below hb5' lV; have ff5 := (fun i => hx5.frozen i); have lg5 := hx5.lt; obtain ⟨v0, v1, v2, v3, v4⟩ := hx5.cells5; obtain ⟨G, g1, g2, g3⟩ := hown5; (simp only [World.size_drew] at g3)) | (obtain ⟨a6, c6, w6, hrun, happ6, hb6, hout6, hsz6⟩ := run_app (P := Tryz.prog) (w5.alloc (.cells (cV y a5 c5) 26)) TV.elem 24 24 (.agg zV) 64 Tryz.underlying24 info_Val rfl (V + 1) wx.heap.size ar cr ts ((HA.out.below TV.elem HB5.out (Nat.le_refl _)).below TV.elem (below1 w5 _) (by omega)) (by simp; omega) (by omega) (some ⟨w5.heap.size, 0, none⟩) 1 [y] G (Srcs.one (TV.box 26 g1 hwf5 (fun f hf => (g3 f hf).2.2.lt))) g2 (fun f hf => ⟨(g3 f hf).1, by have := (g3 f hf).2.1; simp; omega, (g3 f hf).2.2.alloc _⟩) (by simp [maxLen]; omega) (by simp; omega); obtain ⟨ts3, hts3⟩ : ∃ ts3, ts ++ [y] = ts3 := ⟨_, rfl⟩; rw [hts3] at hrun happ6; have HT3 := Lib.hid hts3; clear hts3; refine step_append_run _ rfl _ _ _ _ rfl _ _ rfl rfl _ _ hrun ?_; have hx6 := (hx5.alloc (.cells (cV y a5 c5) 26)).agree (hout6 V (by simp; omega) (fun k hk e => by have := (HA.out.row k hk).1; omega)); have ff6 := (fun i => hx6.frozen i); have lg6 := hx6.lt; obtain ⟨y0, y1, y2, y3, y4⟩ := hx6.cells5)); refine hK.out _ _ trivial (fun hHeld => ?_); clear hK K; try simp only [Act.put, List.setIfInBounds_toArray, List.set_cons_zero, List.set_cons_succ])
            refine wpAnyH_take (i := 6) (oi := ⟨some 57, _, _, _, _, _⟩) (v := ?_) rfl (by kernel_rfl) (by kernel_rfl) (by kernel_rfl) (fun _ _ _ h => h) (Or.inl ⟨by rfl, ?_⟩) (by assumption) ?_
            rotate_left 1
            · (intro w hSw; (try dsimp only at hSw); go_simp; try (with_reducible rfl))
            try simp only [Act.put, List.setIfInBounds_toArray, List.set_cons_zero, List.set_cons_succ]
            refine wpAnyH_ready (rs := [7]) (by kernel_rfl) (by simp) ?_
            refine AllReadyH.cons (o := ⟨none, _, _, _, _, _⟩) rfl (fun K hK => ?_) AllReadyH.nil
            focus (go_simp; go_wp2_with fail; refine hK.out _ _ trivial (fun hHeld => ?_); clear hK K; try simp only [Act.put])
            refine wpAnyH_done (by kernel_rfl) ?_ _
            rotate_left 1
            refine AllReadyH.cons (o := ⟨some 54, _, _, _, _, _⟩) rfl (fun K hK => ?_) AllReadyH.nil
            focus (go_simp; (first | (go_at_call 81; refine (HCALL.out wx.drew (HQ.out.below ((Below.refl B wx).drew) (Nat.le_refl _)) (HE.out.step ((Below.refl B wx).drew)) (by simp only [World.size_drew]; omega)).mono ?_; rintro e w5 ⟨a5, c5, rfl, hwf5, hown5, hb5⟩; have hb5' : Below wx.heap.size wx w5 := ((Below.refl wx.heap.size wx).drew).trans (hb5.mono (by simp)); have HB5 := Lib.hid hb5'; have hs5 := hb5'.size; have hx5 := HV.out.below hb5' lV; have ff5 := (fun i => hx5.frozen i); have lg5 := hx5.lt; obtain ⟨v0, v1, v2, v3, v4⟩ := hx5.cells5; obtain ⟨G, g1, g2, g3⟩ := hown5; (simp only [World.size_drew] at g3)) | (obtain ⟨a6, c6, w6, hrun, happ6, hb6, hout6, hsz6⟩ := run_app (P := Tryz.prog) (w5.alloc (.cells (cV y a5 c5) 26)) TV.elem 24 24 (.agg zV) 64 Tryz.underlying24 info_Val rfl (V + 1) wx.heap.size ar cr ts ((HA.out.below TV.elem HB5.out (Nat.le_refl _)).below TV.elem (below1 w5 _) (by omega)) (by simp; omega) (by omega) (some ⟨w5.heap.size, 0, none⟩) 1 [y] G (Srcs.one (TV.box 26 g1 hwf5 (fun f hf => (g3 f hf).2.2.lt))) g2 (fun f hf => ⟨(g3 f hf).1, by have := (g3 f hf).2.1; simp; omega, (g3 f hf).2.2.alloc _⟩) (by simp [maxLen]; omega) (by simp; omega); obtain ⟨ts3, hts3⟩ : ∃ ts3, ts ++ [y] = ts3 := ⟨_, rfl⟩; rw [hts3] at hrun happ6; have HT3 := Lib.hid hts3; clear hts3; refine step_append_run _ rfl _ _ _ _ rfl _ _ rfl rfl _ _ hrun ?_; have hx6 := (hx5.alloc (.cells (cV y a5 c5) 26)).agree (hout6 V (by simp; omega) (fun k hk e => by have := (HA.out.row k hk).1; omega)); have ff6 := (fun i => hx6.frozen i); have lg6 := hx6.lt; obtain ⟨y0, y1, y2, y3, y4⟩ := hx6.cells5)); go_wp2_with fail; refine hK.out _ _ trivial (fun hHeld => ?_); clear hK K; try simp only [Act.put, List.setIfInBounds_toArray, List.set_cons_zero, List.set_cons_succ])
            refine wpAnyH_ready (rs := [1, 4]) (by kernel_rfl) (by simp) ?_
            refine AllReadyH.cons (o := ⟨some 52, _, _, _, _, _⟩) rfl (fun K hK => ?_) ?_
            focus (go_simp; go_wp2_with fail; refine hK.out _ _ trivial (fun hHeld => ?_); clear hK K; try simp only [Act.put, List.setIfInBounds_toArray, List.set_cons_zero, List.set_cons_succ])
            refine wpAnyH_ready (rs := [4]) (by kernel_rfl) (by simp) ?_
            refine AllReadyH.cons (o := ⟨some 55, _, _, _, _, _⟩) rfl (fun K hK => ?_) AllReadyH.nil
            focus (go_simp; go_wp2_with fail; refine hK.out _ _ trivial (fun hHeld => ?_); clear hK K; try simp only [Act.put, List.setIfInBounds_toArray, List.set_cons_zero, List.set_cons_succ])
            refine wpAnyH_ready (rs := [5]) (by kernel_rfl) (by simp) ?_
            refine AllReadyH.cons (o := ⟨some 56, _, _, _, _, _⟩) rfl (fun K hK => ?_) AllReadyH.nil
            focus ((first | (go_at_call 81; refine (HCALL.out wx.drew (HQ.out.below ((Below.refl B wx).drew) (Nat.le_refl _)) (HE.out.step ((Below.refl B wx).drew)) (by simp only [World.size_drew]; omega)).mono ?_; rintro e w5 ⟨a5, c5, rfl, hwf5, hown5, hb5⟩; have hb5' : Below wx.heap.size wx w5 := ((Below.refl wx.heap.size wx).drew).trans (hb5.mono (by simp)); have HB5 := Lib.hid hb5'; have hs5 := hb5'.size; have hx5 := HV.out.below hb5' lV; have ff5 := (fun i => hx5.frozen i); have lg5 := hx5.lt; obtain ⟨v0, v1, v2, v3, v4⟩ := hx5.cells5; obtain ⟨G, g1, g2, g3⟩ := hown5; (simp only [World.size_drew] at g3)) | (obtain ⟨a6, c6, w6, hrun, happ6, hb6, hout6, hsz6⟩ := run_app (P := Tryz.prog) (w5.alloc (.cells (cV y a5 c5) 26)) TV.elem 24 24 (.agg zV) 64 Tryz.underlying24 info_Val rfl (V + 1) wx.heap.size ar cr ts ((HA.out.below TV.elem HB5.out (Nat.le_refl _)).below TV.elem (below1 w5 _) (by omega)) (by simp; omega) (by omega) (some ⟨w5.heap.size, 0, none⟩) 1 [y] G (Srcs.one (TV.box 26 g1 hwf5 (fun f hf => (g3 f hf).2.2.lt))) g2 (fun f hf => ⟨(g3 f hf).1, by have := (g3 f hf).2.1; simp; omega, (g3 f hf).2.2.alloc _⟩) (by simp [maxLen]; omega) (by simp; omega); obtain ⟨ts3, hts3⟩ : ∃ ts3, ts ++ [y] = ts3 := ⟨_, rfl⟩; rw [hts3] at hrun happ6; have HT3 := Lib.hid hts3; clear hts3; refine step_append_run _ rfl _ _ _ _ rfl _ _ rfl rfl _ _ hrun ?_; have hx6 := (hx5.alloc (.cells (cV y a5 c5) 26)).agree (hout6 V (by simp; omega) (fun k hk e => by have := (HA.out.row k hk).1; omega)); have ff6 := (fun i => hx6.frozen i); have lg6 := hx6.lt; obtain ⟨y0, y1, y2, y3, y4⟩ := hx6.cells5)); refine hK.out _ _ trivial (fun hHeld => ?_); clear hK K; try simp only [Act.put, List.setIfInBounds_toArray, List.set_cons_zero, List.set_cons_succ])
            refine wpAnyH_take (i := 6) (oi := ⟨some 57, _, _, _, _, _⟩) (v := ?_) rfl (by kernel_rfl) (by kernel_rfl) (by kernel_rfl) (fun _ _ _ h => h) (Or.inl ⟨by rfl, ?_⟩) (by assumption) ?_
            rotate_left 1
            · (intro w hSw; (try dsimp only at hSw); go_simp; try (with_reducible rfl))
            try simp only [Act.put, List.setIfInBounds_toArray, List.set_cons_zero, List.set_cons_succ]
            refine wpAnyH_ready (rs := [7]) (by kernel_rfl) (by simp) ?_
            refine AllReadyH.cons (o := ⟨none, _, _, _, _, _⟩) rfl (fun K hK => ?_) AllReadyH.nil
            focus (go_simp; go_wp2_with fail; refine hK.out _ _ trivial (fun hHeld => ?_); clear hK K; try simp only [Act.put])
            refine wpAnyH_done (by kernel_rfl) ?_ _
            rotate_left 1
            refine AllReadyH.cons (o := ⟨some 55, _, _, _, _, _⟩) rfl (fun K hK => ?_) AllReadyH.nil
            focus (go_simp; go_wp2_with fail; refine hK.out _ _ trivial (fun hHeld => ?_); clear hK K; try simp only [Act.put, List.setIfInBounds_toArray, List.set_cons_zero, List.set_cons_succ])
            refine wpAnyH_ready (rs := [1]) (by kernel_rfl) (by simp) ?_
            refine AllReadyH.cons (o := ⟨some 52, _, _, _, _, _⟩) rfl (fun K hK => ?_) AllReadyH.nil
            focus (go_simp; go_wp2_with fail; refine hK.out _ _ trivial (fun hHeld => ?_); clear hK K; try simp only [Act.put, List.setIfInBounds_toArray, List.set_cons_zero, List.set_cons_succ])
            refine wpAnyH_ready (rs := [5]) (by kernel_rfl) (by simp) ?_
            refine AllReadyH.cons (o := ⟨some 56, _, _, _, _, _⟩) rfl (fun K hK => ?_) AllReadyH.nil
            focus ((first | (go_at_call 81; refine (HCALL.out wx.drew (HQ.out.below ((Below.refl B wx).drew) (Nat.le_refl _)) (HE.out.step ((Below.refl B wx).drew)) (by simp only [World.size_drew]; omega)).mono ?_; rintro e w5 ⟨a5, c5, rfl, hwf5, hown5, hb5⟩; have hb5' : Below wx.heap.size wx w5 := ((Below.refl wx.heap.size wx).drew).trans (hb5.mono (by simp)); have HB5 := Lib.hid hb5'; have hs5 := hb5'.size; have hx5 := HV.out.below hb5' lV; have ff5 := (fun i => hx5.frozen i); have lg5 := hx5.lt; obtain ⟨v0, v1, v2, v3, v4⟩ := hx5.cells5; obtain ⟨G, g1, g2, g3⟩ := hown5; (simp only [World.size_drew] at g3)) | (obtain ⟨a6, c6, w6, hrun, happ6, hb6, hout6, hsz6⟩ := run_app (P := Tryz.prog) (w5.alloc (.cells (cV y a5 c5) 26)) TV.elem 24 24 (.agg zV) 64 Tryz.underlying24 info_Val rfl (V + 1) wx.heap.size ar cr ts ((HA.out.below TV.elem HB5.out (Nat.le_refl _)).below TV.elem (below1 w5 _) (by omega)) (by simp; omega) (by omega) (some ⟨w5.heap.size, 0, none⟩) 1 [y] G (Srcs.one (TV.box 26 g1 hwf5 (fun f hf => (g3 f hf).2.2.lt))) g2 (fun f hf => ⟨(g3 f hf).1, by have := (g3 f hf).2.1; simp; omega, (g3 f hf).2.2.alloc _⟩) (by simp [maxLen]; omega) (by simp; omega); obtain ⟨ts3, hts3⟩ : ∃ ts3, ts ++ [y] = ts3 := ⟨_, rfl⟩; rw [hts3] at hrun happ6; have HT3 := Lib.hid hts3; clear hts3; refine step_append_run _ rfl _ _ _ _ rfl _ _ rfl rfl _ _ hrun ?_; have hx6 := (hx5.alloc (.cells (cV y a5 c5) 26)).agree (hout6 V (by simp; omega) (fun k hk e => by have := (HA.out.row k hk).1; omega)); have ff6 := (fun i => hx6.frozen i); have lg6 := hx6.lt; obtain ⟨y0, y1, y2, y3, y4⟩ := hx6.cells5)); refine hK.out _ _ trivial (fun hHeld => ?_); clear hK K; try simp only [Act.put, List.setIfInBounds_toArray, List.set_cons_zero, List.set_cons_succ])
            refine wpAnyH_take (i := 6) (oi := ⟨some 57, _, _, _, _, _⟩) (v := ?_) rfl (by kernel_rfl) (by kernel_rfl) (by kernel_rfl) (fun _ _ _ h => h) (Or.inl ⟨by rfl, ?_⟩) (by assumption) ?_
            rotate_left 1
            · (intro w hSw; (try dsimp only at hSw); go_simp; try (with_reducible rfl))
            try simp only [Act.put, List.setIfInBounds_toArray, List.set_cons_zero, List.set_cons_succ]
            refine wpAnyH_ready (rs := [7]) (by kernel_rfl) (by simp) ?_
            refine AllReadyH.cons (o := ⟨none, _, _, _, _, _⟩) rfl (fun K hK => ?_) AllReadyH.nil
            focus (go_simp; go_wp2_with fail; refine hK.out _ _ trivial (fun hHeld => ?_); clear hK K; try simp only [Act.put])
            refine wpAnyH_done (by kernel_rfl) ?_ _
            all_goals
              have HV7 := Lib.hid (hx6.set 4 (.slice a6 ts3.length c6))
              have HA7 := Lib.hid (show App TV 5 26 True (w6.setCell ⟨V, 4, none⟩ (.slice a6 ts3.length c6)) (V + 1) (w6.setCell ⟨V, 4, none⟩ (.slice a6 ts3.length c6)).heap.size a6 c6 ts3 from by
                rw [size_set]; exact happ6.agree TV.elem (fun f hf _ => heap_miss _ _ _ _ (by omega) _))
              have HB7 := Lib.hid (show Below V W1 (w6.setCell ⟨V, 4, none⟩ (.slice a6 ts3.length c6)) from
                ((((HBX.out.trans (HB5.out.mono (by omega))).trans ((below1 w5 _).mono (by omega))).trans (hb6.mono (by omega))).trans (below1s w6 V 4 _)))
              go_upto_region 13 with (fail)
              clear HB5 hx5 hx6 ff5 ff6 lg5 lg6 y0 y1 y2 y3 y4 hout6 hsz6 hrun hb6 g1 g2 g3 hwf5 hb5 hb5' hs5 happ6 HV HA HX HCALL HQ HE HBX ff v0 v1 v2 v3 v4 lV
              generalize w6.setCell ⟨V, 4, none⟩ (.slice a6 ts3.length c6) = w7 at *
              have HLN := Lib.hid (show ts3.length = j + 1 from by rw [← HT3.out, List.length_append, HTL.out]; rfl)
              have HTS3 := Lib.hid (show nuL m true (l.take (j + 1)) = ts3 from by rw [HSU.out, HTS.out, HT3.out])
              go_wp2_with fail
              go_roundw
              case rel => exact ⟨j + 1, ts3, a6, c6, by go_num, by omega, HTS3, HLN, HV7, HA7, HB7⟩
              case measure => simp [intOf]; omega
      · obtain rfl : j = l.length := by omega
        have hltz : ¬ (l.length : Int) < (l.length : Int) := by omega
        have HTS2 := Lib.hid (show nuL m true l = ts from by have := HTS.out; rwa [List.take_length] at this)
        have HEP := Lib.hid (show lastT (.mk k 0 0 ⟨#[]⟩ ts) = P from by rw [← HTS2.out]; exact HEU.out)
        have hcnt := Lib.hid (show T.count (.mk k 0 0 ⟨#[]⟩ ts) ≤ 1073741824 from by
          have := nuL_countL m l true (fun u _ => nuT_count u)
          rw [HTS2.out] at this
          have := HCT.out
          simp only [T.count]; omega)
        have hwfk : Wf (.mk k 0 0 ⟨#[]⟩ ts) := ⟨by show I64 k; exact ⟨by omega, by omega⟩, by show I64 0; exact ⟨by decide, by decide⟩, by show I64 0; exact ⟨by decide, by decide⟩, by show (⟨#[]⟩ : ByteArray).size ≤ maxLen; exact Nat.zero_le _⟩
        have HWK := Lib.hid hwfk
        have HWP := Lib.hid (show Wf P from by rw [← HEP.out]; exact lastT_wf hwfk)
        obtain ⟨v0, v1, v2, v3, v4⟩ := HV.out.cells5
        have p2 := HR1.out.below HBR.out hs0R
        have hlb2 : R < wr.heap.size := by omega
        clear hwfk HTS HTS2 HEU hlt hj
        have HLP := Lib.hid (impl_lastPairs (.mk k 0 0 ⟨#[]⟩ ts) ar cr (V + 1) wr.heap.size wr (Own.ow.2 HA.out.own) HWK.out (Nat.le_refl _) (by omega) hcnt.out)
        rw [HEP.out] at HLP
        go_wp2_with fail
        refine HLP.out.mono ?_
        rintro e w3 ⟨a3, cap3, rfl, hown, hb3⟩
        have p3 := p2.below hb3 hlb2
        have f3 := fun i => p3.frozen i
        have lg3 := p3.lt
        obtain ⟨o0, o1, o2, o3, o4⟩ := p3.cells5
        have HB3 := Lib.hid ((H1.out.trans (HBR.out.mono (by omega))).trans (hb3.mono (by omega)))
        go_wp2_with fail
        obtain ⟨e0, e1, e2, e3, e4, hbel, hold, hsz3⟩ := out5 p3.blk (.int .i64 P.k) (.int .i64 P.n) (.int .i64 P.x) (.string P.s) (.slice a3 P.l.length cap3) w.heap.size (by omega)
        exact bodyPost_ret (v := .agg (cV P a3 cap3)) (by simp [results, Tryz.results81, go_sem, e0, e1, e2, e3, e4]) rfl ⟨a3, cap3, rfl, HWP.out, hown.fin hold hsz3 (by omega) (by omega), HB3.out.trans hbel⟩
end Go.Proofs.YtggdenkmohnijaaGreatDoor
