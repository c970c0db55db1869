/- Texts of this proof, merged: NmS. No condition beyond what each theorem states. -/
import Derived.Test.YtggdenkmohnijaaGreatDoorZN38
import Derived.Test.YtggdenkmohnijaaGreatDoorZN39
import Derived.Test.YtggdenkmohnijaaGreatDoorZN24
import Derived.Test.YtggdenkmohnijaaGreatDoorZN37
set_option linter.unusedSimpArgs false
set_option linter.unnecessarySimpa false
namespace Go.Proofs.YtggdenkmohnijaaGreatDoor
open Go.ChangeShapes Go.WideShapes Go.ChangeAt Go.RowKit Go.Joins
set_option linter.unusedVariables false
set_option maxRecDepth 100000
set_option maxHeartbeats 1000000 in
theorem spec_l6Copy_nil (k n x : Int) (s : ByteArray) (w : World) :
    Calls Tryz.prog 82 #[.agg #[.int .i64 k, .int .i64 n, .int .i64 x, .string s, .slice none 0 0]] w fun e w' => ∃ a' cap', e = .returned (.agg #[.int .i64 k, .int .i64 n, .int .i64 x, .string s, .slice a' 0 cap']) ∧ App TV 5 26 True w' w.heap.size w'.heap.size a' cap' [] ∧ Below w.heap.size w w' := by
  go_enter Tryz.func82, Tryz.ntmps82
  go_wp2_with fail
  generalize hW : (((w.alloc (.cells #[.int .i64 k, .int .i64 n, .int .i64 x, .string s, .slice none 0 0] 26)).alloc (.cells zV 26)).alloc (.cells #[.int .i64 k, .int .i64 n, .int .i64 x, .string s, .slice (some ⟨w.heap.size + 1 + 1 + 1, 0, none⟩) 0 0] 26)).alloc (.cells #[] 26) = W0
  have q1 : Is W0 w.heap.size 26 #[.int .i64 k, .int .i64 n, .int .i64 x, .string s, .slice none 0 0] := by subst hW; exact (((Is.new _ _ _).alloc _).alloc _).alloc _
  have q2 : Is W0 (w.heap.size + 1) 26 zV := by subst hW; exact ((Is.new2 _ _ _ _).alloc _).alloc _
  have q3 : Is W0 (w.heap.size + 1 + 1) 26 #[.int .i64 k, .int .i64 n, .int .i64 x, .string s, .slice (some ⟨w.heap.size + 1 + 1 + 1, 0, none⟩) 0 0] := by subst hW; exact (Is.new3 _ _ _ _ _).alloc _
  have hs0 : W0.heap.size = w.heap.size + 4 := by subst hW; simp
  have happ0 : App TV 5 26 True W0 (w.heap.size + 3) W0.heap.size (some ⟨w.heap.size + 1 + 1 + 1, 0, none⟩) 0 [] := by
    subst hW
    have := App.empty (E := TV) (n := 5) (e := 26) (nd := True) (((w.alloc (.cells #[.int .i64 k, .int .i64 n, .int .i64 x, .string s, .slice none 0 0] 26)).alloc (.cells zV 26)).alloc (.cells #[.int .i64 k, .int .i64 n, .int .i64 x, .string s, .slice (some ⟨w.heap.size + 1 + 1 + 1, 0, none⟩) 0 0] 26)) (w.heap.size + 3) (w.heap.size + 4) (by simp) (by simp)
    simp only [size_alloc] at this ⊢
    exact this.more (Nat.le_refl _) (by omega)
  have H0 := Lib.hid (show Below w.heap.size w W0 from by subst hW; exact ((below3 _ _ _ _)).alloc (by simp; omega) _)
  clear hW
  go_loopw [4] (fun i wr => i = .int .i64 0 ∧ wr = W0) (fun _ _ => 0)
  case atStart => exact ⟨rfl, rfl⟩
  case round =>
    obtain ⟨rfl, hwr⟩ := hrel
    subst hwr
    rename World => W0
    have f2 := fun i => q2.frozen i
    obtain ⟨r0, r1, r2, r3, r4⟩ := q1.cells5
    obtain ⟨o0, o1, o2, o3, o4⟩ := q2.cells5
    obtain ⟨t0, t1, t2, t3, t4⟩ := q3.cells5
    have hl0 : w.heap.size < W0.heap.size := by omega
    have hl1 : w.heap.size + 1 < W0.heap.size := by omega
    have hl2 : w.heap.size + 1 + 1 < W0.heap.size := by omega
    go_wp2_with fail
    obtain ⟨e0, e1, e2, e3, e4, hbel, hold, hsz⟩ := out5 q2.blk (.int .i64 k) (.int .i64 n) (.int .i64 x) (.string s) (.slice (some ⟨w.heap.size + 1 + 1 + 1, 0, none⟩) 0 0) w.heap.size (by omega)
    refine bodyPost_ret (v := .agg #[.int .i64 k, .int .i64 n, .int .i64 x, .string s, .slice (some ⟨w.heap.size + 1 + 1 + 1, 0, none⟩) 0 0]) (by simp [results, Tryz.results82, go_sem, e0, e1, e2, e3, e4]) rfl ⟨_, _, rfl, ?_, H0.out.trans hbel⟩
    rw [hsz]
    exact (happ0.agree TV.elem (fun f h1 h2 => hold f (by omega))).more (by omega) (Nat.le_refl _)
set_option maxHeartbeats 1000000 in
theorem spec_LeafFor_list (k n x : Int) (s : ByteArray) (hk : k = 9 ∨ k = 10) (w : World) :
    Calls Tryz.prog 141 #[.int .i64 1, .agg #[.int .i64 k, .int .i64 n, .int .i64 x, .string s, .slice none 0 0]] w fun e w' => ∃ a' cap', e = .returned (.tuple #[.agg #[.int .i64 k, .int .i64 n, .int .i64 x, .string s, .slice a' 0 cap'], .int .i64 0]) ∧ App TV 5 26 True w' w.heap.size w'.heap.size a' cap' [] ∧ Below w.heap.size w w' := by
  have hb3 : (k == 3) = false := by simp; omega
  have hb4 : (k == 4) = false := by simp; omega
  have hb5 : (k == 5) = false := by simp; omega
  have hb6 : (k == 6) = false := by simp; omega
  have hb8 : (k == 8) = false := by simp; omega
  clear hk
  go_enter Tryz.func141, Tryz.ntmps141
  go_wp2_with fail
  generalize hW : (w.alloc (.cells #[.int .i64 k, .int .i64 n, .int .i64 x, .string s, .slice none 0 0] 26)).alloc (.cells zV 26) = W0
  have q1 : Is W0 w.heap.size 26 #[.int .i64 k, .int .i64 n, .int .i64 x, .string s, .slice none 0 0] := by subst hW; exact (Is.new _ _ _).alloc _
  have q2 : Is W0 (w.heap.size + 1) 26 zV := by subst hW; exact Is.new2 _ _ _ _
  have H0 := Lib.hid (show Below w.heap.size w W0 from by subst hW; exact below2 _ _ _)
  have hs0 : W0.heap.size = w.heap.size + 2 := by subst hW; simp
  clear hW
  refine (spec_l6Copy_nil k n x s W0).mono ?_
  rintro ee w2 ⟨a', cap', rfl, ho, hb2⟩
  have HO := Lib.hid ho; clear ho
  have hs2 := hb2.size
  have p1 := q1.below hb2 (by omega)
  have p2 := q2.below hb2 (by omega)
  have HB := Lib.hid (H0.out.trans (hb2.mono (by omega)))
  have hl1 : w.heap.size + 1 < w2.heap.size := by omega
  have hl0 : w.heap.size < w2.heap.size := by omega
  clear hb2
  have f1 := fun i => p1.frozen i
  have f2 := fun i => p2.frozen i
  obtain ⟨r0, r1, r2, r3, r4⟩ := p1.cells5
  obtain ⟨o0, o1, o2, o3, o4⟩ := p2.cells5
  try dsimp only
  repeat (first | go_values | go_skip | go_guarded | go_step | go_upon)
  obtain ⟨e0, e1, e2, e3, e4, hbel, hold, hsz⟩ := out5 p2.blk (.int .i64 k) (.int .i64 n) (.int .i64 x) (.string s) (.slice a' 0 cap') w.heap.size (by omega)
  refine bodyPost_ret (v := .tuple #[.agg #[.int .i64 k, .int .i64 n, .int .i64 x, .string s, .slice a' 0 cap'], .int .i64 0]) (by simp [results, Tryz.results141, go_sem, e0, e1, e2, e3, e4]) rfl ⟨a', cap', rfl, ?_, HB.out.trans hbel⟩
  rw [hsz]
  exact (HO.out.agree TV.elem (fun f h1 h2 => hold f (by omega))).more (by omega) (Nat.le_refl _)
abbrev R' (w : World) (B : Nat) (a : Option Addr) (cap : Nat) (l : List T) : Prop := R w B a cap l
theorem App.setV {e : TypeId} {nd : Prop} {w : World} {lo hi cap V : Nat} {a : Option Addr} {l : List T} (h : App (EX V TV) 5 e nd w lo hi a cap l) (hk : ∀ k, (Value.slice a l.length cap).ownBlock = some k → k ≠ V) (i : Nat) (v : Value) : App (EX V TV) 5 e nd (w.setCell ⟨V, i, none⟩ v) lo hi a cap l := by
  rcases h with h | ⟨g, cur, F, rfl, h1, h2, h3, h4, h5, h6, h7, h8, h9, h10⟩
  · exact Or.inl h
  · have hg : g ≠ V := hk g rfl
    have hu := (Row.unex h7).2
    have hne : ∀ f ∈ F, f ≠ V := fun f hf e => hu (e ▸ hf)
    have hm : ∀ f, f ≠ V → (w.setCell ⟨V, i, none⟩ v).heap[f]? = w.heap[f]? := fun f hf => heap_miss _ _ _ _ hf _
    exact Or.inr ⟨g, cur, F, rfl, h1, h2, (hm g hg).trans h3, h4, h5, h6, h7.agree (EX.elem V TV.elem).loc l (Cells.of_block (hm g hg) _ _) (fun f hf => hm f (hne f hf)), h8, h9, fun f hf => ⟨(h10 f hf).1, (h10 f hf).2.1, (h10 f hf).2.2.agree (hm f (hne f hf))⟩⟩
theorem App.readV {e : TypeId} {w : World} {lo hi cap V : Nat} {a : Option Addr} {l : List T} (h : App (EX V TV) 5 e True w lo hi a cap l) : R w hi a cap l := by
  rcases h with ⟨rfl, rfl, rfl⟩ | ⟨g, cur, F, rfl, h1, h2, h3, h4, h5, h6, h7, h8, h9, h10⟩
  · exact (Own.nil w 0 hi none 0 (by simp [maxLen])).read
  · by_cases hl : l = []
    · subst hl; exact (Own.nil w 0 hi _ cap h5).read
    · refine R.rd.2 ⟨g :: F, ⟨h4, h5, fun hh => absurd hh hl, fun _ => ⟨g, 0, F, rfl, rfl, (Row.unex h7).1⟩⟩, ?_⟩
      intro f hf
      rcases List.mem_cons.1 hf with rfl | hf
      · exact h2
      · exact (h10 f hf).2.1
def L19Ok (t : T) : Prop := ∀ (a : Option Addr) (cap B : Nat) (w : World), R w B a cap t.l → Wf t → B ≤ w.heap.size →
    Calls Tryz.prog 85 #[.agg (cV t a cap)] w fun e w' => ∃ a' cap', e = .returned (.agg (cV (nuT t) a' cap')) ∧ Wf (nuT t) ∧ Own w' w.heap.size w'.heap.size a' cap' (nuT t).l ∧ Below w.heap.size w w'
def SNameOk (t : T) : Prop := ∀ (a : Option Addr) (cap B : Nat) (w : World), R w B a cap t.l → Wf t → B ≤ w.heap.size →
    Calls Tryz.prog 29 #[.agg (cV t a cap)] w fun e w' => ∃ a' cap', e = .returned (.agg (cV (nfT t) a' cap')) ∧ Wf (nfT t) ∧ Own w' w.heap.size w'.heap.size a' cap' (nfT t).l ∧ Below w.heap.size w w'
set_option maxHeartbeats 8000000 in
theorem spec_nameFor_of (t : T) (hN : t.k ≠ 7 → allB ownB t = true → T.sz (nuT t) ≤ 1048576 ∧ L19Ok t) (hsz : T.sz t ≤ 1048576) : SNameOk t := by
  intro a cap B w hr hwf hB
  have hct : T.count t ≤ 1073741824 := by have := T.countL_le_szL t; omega
  obtain ⟨W0, hW⟩ : ∃ W0, (w.alloc (.cells (cV t a cap) 26)).alloc (.cells zV 26) = W0 := ⟨_, rfl⟩
  have HB0 := Lib.hid (show Is W0 w.heap.size 26 (cV t a cap) from hW ▸ (Is.new _ _ _).alloc _)
  have HR0 := Lib.hid (show Is W0 (w.heap.size + 1) 26 zV from hW ▸ Is.new2 _ _ _ _)
  have H0 := Lib.hid (show Below w.heap.size w W0 from hW ▸ (below1 w _).trans ((below1 _ _).mono (by simp)))
  have hs0 : W0.heap.size = w.heap.size + 2 := by rw [← hW]; simp
  have HRr := Lib.hid (hr.below H0.out hB); have HWF := Lib.hid hwf
  have HVO := Lib.hid (fun (W : World) (h1 : R W B a cap t.l) (h3 : B ≤ W.heap.size) => spec_ValOk t a cap B W h1 hwf hsz h3)
  have HCP := Lib.hid (fun (W : World) (h1 : R W B a cap t.l) (h3 : B ≤ W.heap.size) => spec_l6Copy t a cap B W h1 hwf h3 hct)
  have HNN := Lib.hid hN
  clear hr hwf hct hN
  obtain ⟨P, hP⟩ : ∃ P, nfT t = P := ⟨_, rfl⟩
  rw [hP]
  have HP := Lib.hid hP; clear hP
  go_enter Tryz.func29, Tryz.ntmps29
  go_upto_region 1 with (fail)
  try rw [hW]
  clear hW
  obtain ⟨R, hR⟩ : ∃ R, w.heap.size + 1 = R := ⟨_, rfl⟩
  rw [hR] at HR0
  try rw [hR]
  have hwR : w.heap.size < R := by omega
  have hs0R : R < W0.heap.size := by omega
  have hs1R : R + 1 ≤ W0.heap.size := by omega
  clear hR hs0
  obtain ⟨r0, r1, r2, r3, r4⟩ := HB0.out.cells5
  have lB := HB0.out.lt
  by_cases h7 : t.k = 7
  · have b7 : (t.k == 7) = true := by simpa using h7
    have HE7 := Lib.hid (show t = P from by rw [← HP.out]; exact (if_pos (Or.inl h7)).symm)
    clear h7 HP HNN HVO
    go_wp2_with fail
    refine (HCP.out W0 HRr.out (by omega)).mono ?_
    rintro e w3 ⟨a3, cap3, rfl, hown, hb3⟩
    have p3 := HR0.out.below hb3 hs0R
    have f3 := fun i => p3.frozen i
    have lg3 := p3.lt
    obtain ⟨o0, o1, o2, o3, o4⟩ := p3.cells5
    have HB3 := Lib.hid (H0.out.trans (hb3.mono (by omega)))
    go_wp2_with fail
    obtain ⟨e0, e1, e2, e3, e4, hbel, hold, hsz3⟩ := out5 p3.blk (.int .i64 t.k) (.int .i64 t.n) (.int .i64 t.x) (.string t.s) (.slice a3 t.l.length cap3) w.heap.size (by omega)
    refine bodyPost_ret (v := .agg (cV t a3 cap3)) (by simp [results, Tryz.results29, go_sem, e0, e1, e2, e3, e4]) rfl ?_
    rw [← HE7.out]
    exact ⟨a3, cap3, rfl, HWF.out, hown.fin hold hsz3 (by omega) (by have := H0.out.size; omega), HB3.out.trans hbel⟩
  have b7 : (t.k == 7) = false := by simpa using h7
  go_wp2_with fail
  refine (HVO.out W0 HRr.out (by omega)).mono ?_
  rintro e w1 ⟨rfl, hb1⟩
  have hs1 := hb1.size
  have HB1 := Lib.hid (HB0.out.below hb1 lB)
  have HR1 := Lib.hid (HR0.out.below hb1 hs0R)
  have H1 := Lib.hid (H0.out.trans (hb1.mono (by omega)))
  have HRr1 := Lib.hid (HRr.out.below hb1 (by omega))
  clear r0 r1 r2 r3 r4 lB hb1 HB0 HR0 H0 HRr HVO
  obtain ⟨r0, r1, r2, r3, r4⟩ := HB1.out.cells5
  have lB := HB1.out.lt
  have lR1 := HR1.out.lt
  cases hv : allB ownB t with
  | false =>
    have HE7 := Lib.hid (show t = P from by rw [← HP.out]; exact (if_pos (Or.inr hv)).symm)
    clear h7 HP HNN hv
    go_wp2_with fail
    refine (HCP.out w1 HRr1.out (by omega)).mono ?_
    rintro e w3 ⟨a3, cap3, rfl, hown, hb3⟩
    have p3 := HR1.out.below hb3 lR1
    have f3 := fun i => p3.frozen i
    have lg3 := p3.lt
    obtain ⟨o0, o1, o2, o3, o4⟩ := p3.cells5
    have HB3 := Lib.hid (H1.out.trans (hb3.mono (by omega)))
    go_wp2_with fail
    obtain ⟨e0, e1, e2, e3, e4, hbel, hold, hsz3⟩ := out5 p3.blk (.int .i64 t.k) (.int .i64 t.n) (.int .i64 t.x) (.string t.s) (.slice a3 t.l.length cap3) w.heap.size (by omega)
    refine bodyPost_ret (v := .agg (cV t a3 cap3)) (by simp [results, Tryz.results29, go_sem, e0, e1, e2, e3, e4]) rfl ?_
    rw [← HE7.out]
    exact ⟨a3, cap3, rfl, HWF.out, hown.fin hold hsz3 (by omega) (by have := H1.out.size; omega), HB3.out.trans hbel⟩
  | true =>
    have HE7 := Lib.hid (show T.mk 7 0 0 (writeX (nuT t)) [] = P from by rw [← HP.out]; exact (if_neg (by rw [hv]; simp [h7])).symm)
    obtain ⟨hnz, hnok⟩ := HNN.out h7 hv
    have HNO := Lib.hid hnok
    have HXS := Lib.hid (nuX_size hv)
    have HWR := Lib.hid (show allB (fun t => decide (wrP t)) (nuT t) = true from by obtain ⟨o1, o2, _⟩ := nuT_ok t hv; exact allB_mono fitT_wr _ (allB_both _ o1 o2))
    have HWX := Lib.hid (nuT_write hv)
    clear h7 HP HNN hnok hv
    go_wp2_with fail
    refine (HNO.out a cap B w1 HRr1.out HWF.out (by omega)).mono ?_
    rintro e w2 ⟨a2, cap2, rfl, hwf2, hown, hb2⟩
    have hs2 := hb2.size
    have HB2 := Lib.hid hb2
    have HO2 := Lib.hid hown.read
    have HW2 := Lib.hid hwf2
    clear hwf2 hown hb2
    obtain ⟨u, hu⟩ : ∃ u, nuT t = u := ⟨_, rfl⟩
    rw [hu] at HW2 HO2 HE7 hnz HXS HWR HWX ⊢
    clear hu
    go_wp2_with fail
    refine (spec_l11Write u a2 cap2 w2.heap.size w2 HO2.out HW2.out hnz (Nat.le_refl _) HWR.out).mono ?_
    rintro e w3 ⟨rfl, hb3⟩
    rw [← HWX.out]
    have hs3 := hb3.size
    have HB3 := Lib.hid hb3; clear hb3
    obtain ⟨xs, hxs⟩ : ∃ xs, writeX u = xs := ⟨_, rfl⟩
    rw [hxs] at HE7 HXS ⊢
    clear hxs
    go_wp2_with fail
    refine (spec_TextVal xs w3).mono ?_
    rintro e w4 ⟨rfl, hb4⟩
    have hs4 := hb4.size
    have p3 := ((HR1.out.below HB2.out lR1).below HB3.out (by omega)).below hb4 (by omega)
    have f3 := fun i => p3.frozen i
    have lg3 := p3.lt
    obtain ⟨o0, o1, o2, o3, o4⟩ := p3.cells5
    have HB4 := Lib.hid (((H1.out.trans (HB2.out.mono (by omega))).trans (HB3.out.mono (by omega))).trans (hb4.mono (by omega)))
    go_wp2_with fail
    obtain ⟨e0, e1, e2, e3, e4, hbel, hold, hsz3⟩ := out5 p3.blk (.int .i64 7) (.int .i64 0) (.int .i64 0) (.string xs) (.slice none 0 0) w.heap.size (by omega)
    refine bodyPost_ret (v := .agg #[.int .i64 7, .int .i64 0, .int .i64 0, .string xs, .slice none 0 0]) (by simp [results, Tryz.results29, go_sem, e0, e1, e2, e3, e4]) rfl ?_
    rw [← HE7.out]
    exact ⟨none, 0, rfl, wf_text (by have := HXS.out; omega), Own.nil _ _ _ _ _ (by simp [maxLen]), HB4.out.trans hbel⟩
set_option maxHeartbeats 16000000 in
theorem spec_l19Text : ∀ t : T, allB ownB t = true → NuOk t → L19Ok t := by
  intro t
  induction t using T.ind with
  | h k n x s l ih =>
    intro ho hn a cap B w hr hwf hB
    have hq := own_of ho
    have hch : ∀ u ∈ l, allB ownB u = true := by rw [allB_eq, Bool.and_eq_true, List.all_eq_true] at ho; exact ho.2
    have hsz := hn.top.1
    have hcn : ∀ u ∈ l, NuOk u := fun u hu => hn.child hu
    have hct : T.count (.mk k n x s l) ≤ 1073741824 := by have := T.countL_le_szL (.mk k n x s l); omega
    rw [sz_of] at hsz
    have hll := T.length_le_szL l
    have hlen : l.length ≤ 1048576 := by omega
    have hss : s.size ≤ 1048576 := by omega
    have IH := Lib.hid (fun u (hu : u ∈ l) => ih u hu (hch u hu) (hcn u hu))
    have INF := Lib.hid (fun u (hu : u ∈ l) => spec_nameFor_of u (fun _ _ => ⟨(hcn u hu).top.2, ih u hu (hch u hu) (hcn u hu)⟩) (hcn u hu).top.1)
    have HOC := Lib.hid hch
    have HQ := Lib.hid hq
    simp only [T.l_mk] at hr
    obtain ⟨hl1, hl2⟩ := hr.len
    obtain ⟨P, hP⟩ : ∃ P, nuT (.mk k n x s l) = P := ⟨_, rfl⟩
    rw [hP]
    have HP := Lib.hid hP
    clear hP ih hn ho hch hcn hsz hll hq
    rw [show cV (.mk k n x s l) a cap = #[Value.int IntKind.i64 k, Value.int IntKind.i64 n, Value.int IntKind.i64 x, Value.string s, Value.slice a l.length cap] from rfl]
    obtain ⟨W0, hW⟩ : ∃ W0, (w.alloc (.cells #[.int .i64 k, .int .i64 n, .int .i64 x, .string s, .slice a l.length cap] 26)).alloc (.cells zV 26) = W0 := ⟨_, rfl⟩
    have HB0 := Lib.hid (show Is W0 w.heap.size 26 #[.int .i64 k, .int .i64 n, .int .i64 x, .string s, .slice a l.length cap] from hW ▸ (Is.new _ _ _).alloc _)
    have HR0 := Lib.hid (show Is W0 (w.heap.size + 1) 26 zV from hW ▸ Is.new2 _ _ _ _)
    have H0 := Lib.hid (show Below w.heap.size w W0 from hW ▸ (below1 w _).trans ((below1 _ _).mono (by simp)))
    have hs0 : W0.heap.size = w.heap.size + 2 := by rw [← hW]; simp
    have HRr := Lib.hid (hr.below H0.out hB); have HWF := Lib.hid hwf
    clear hr hwf
    go_enter Tryz.func85, Tryz.ntmps85
    go_upto_region 1 with (fail)
    try rw [hW]
    clear hW
    obtain ⟨R, hR⟩ : ∃ R, w.heap.size + 1 = R := ⟨_, rfl⟩
    rw [hR] at HR0
    try rw [hR]
    have hwR : w.heap.size < R := by omega
    have hs0R : R < W0.heap.size := by omega
    have hs1R : R + 1 ≤ W0.heap.size := by omega
    clear hR hs0
    obtain ⟨r0, r1, r2, r3, r4⟩ := HB0.out.cells5
    have lB := HB0.out.lt
    by_cases k11 : k = 11
    · subst k11
      obtain ⟨u, rfl⟩ : ∃ u, l = [u] := List.length_eq_one_iff.1 ((own11 _ _ _ _).1 HQ.out).2.2.2
      have HEU := Lib.hid (show nuT u = P from by rw [← HP.out, nuT, if_pos rfl, nuH])
      obtain ⟨b, o, a2, cap2, rfl, hbl, d0, d1, d2, d3, d4, hwf, hq2⟩ := (HRr.out).get 0 (by simp)
      have HW1 := Lib.hid hwf; have HQ1 := Lib.hid hq2; clear hwf hq2
      simp only [List.getElem_cons_zero, Nat.zero_mul, Nat.add_zero] at d0 d1 d2 d3 d4 HW1 HQ1
      have hlb : b < W0.heap.size := by omega
      have HU := Lib.hid (IH.out u (by simp))
      clear HP IH INF HOC HQ
      go_wp2_with fail
      refine (HU.out a2 cap2 B W0 HQ1.out HW1.out (by omega)).mono ?_
      rintro e w2 ⟨a3, cap3, rfl, hwf3, hown, hb2⟩
      rw [HEU.out] at hwf3 hown ⊢
      have HW3 := Lib.hid hwf3
      have p3 := HR0.out.below hb2 hs0R
      have f3 := fun i => p3.frozen i
      have lg3 := p3.lt
      obtain ⟨o0, o1, o2, o3, o4⟩ := p3.cells5
      have HB3 := Lib.hid (H0.out.trans (hb2.mono (by omega)))
      go_wp2_with fail
      obtain ⟨e0, e1, e2, e3, e4, hbel, hold, hsz3⟩ := out5 p3.blk (.int .i64 P.k) (.int .i64 P.n) (.int .i64 P.x) (.string P.s) (.slice a3 P.l.length cap3) w.heap.size (by omega)
      exact bodyPost_ret (v := .agg (cV P a3 cap3)) (by simp [results, Tryz.results85, go_sem, e0, e1, e2, e3, e4]) rfl ⟨a3, cap3, rfl, HW3.out, hown.fin hold hsz3 (by omega) (by have := H0.out.size; omega), HB3.out.trans hbel⟩
    have b11 : (k == 11) = false := by simpa using k11
    by_cases k9 : k < 9
    · have hl0 : l = [] := by
        have hq := HQ.out
        apply List.length_eq_zero_iff.1
        rcases own_kinds hq with rfl | rfl | rfl | rfl | rfl | rfl | rfl | rfl | rfl | rfl | rfl
        · exact ((own1 _ _ _ _).1 hq).2.2.1
        · exact ((own2 _ _ _ _).1 hq).2.2.1
        · exact ((own3 _ _ _ _).1 hq).2.2.1
        · exact ((own4 _ _ _ _).1 hq).2.1
        · exact ((own5 _ _ _ _).1 hq).2.2.1
        · exact ((own6 _ _ _ _).1 hq).2.1
        · exact ((own7 _ _ _ _).1 hq).2.1
        · exact ((own8 _ _ _ _).1 hq).2.1
        all_goals omega
      subst hl0
      have HEU := Lib.hid (show lT 1 (.mk k n x s []) = P from by rw [← HP.out, nuT, if_neg k11, if_neg (by omega)])
      have HLF := Lib.hid (spec_LeafFor1 1 (.mk k n x s []) none 0 B W0 (Own.nil W0 0 B none 0 (by simp [maxLen])).read HWF.out hct (by omega) hss rfl)
      rw [HEU.out, show cV (.mk k n x s []) none 0 = #[Value.int IntKind.i64 k, Value.int IntKind.i64 n, Value.int IntKind.i64 x, Value.string s, Value.slice none 0 0] from rfl] at HLF
      have HPL := Lib.hid (show P.l = [] from by rw [← HEU.out]; exact (lT1_ok HQ.out k9).2.2)
      have HWP := Lib.hid (show Wf P from by rw [← HEU.out]; exact lT_wf 1 HWF.out hss)
      have HCP := Lib.hid (show T.count P ≤ 1073741824 from by
        have h := HPL.out
        obtain ⟨pk, pn, px, ps, pl⟩ := P
        obtain rfl : pl = [] := h
        simp [T.count, T.countL])
      obtain ⟨q, hq⟩ : ∃ q, lN 1 (.mk k n x s []) = q := ⟨_, rfl⟩
      rw [hq] at HLF
      clear HP IH INF HOC HQ hq HEU
      simp only [List.length_nil] at r4
      go_wp2_with fail
      refine HLF.out.mono ?_
      rintro e w2 ⟨a3, cap3, rfl, hown, hb2⟩
      have hs2 := hb2.size
      go_upto_region 4 with (fail)
      have HN := Lib.hid (Is.new w2 (cV P a3 cap3) 26)
      have HR3 := Lib.hid ((HR0.out.below hb2 hs0R).alloc (.cells (cV P a3 cap3) 26))
      have HB3 := Lib.hid ((HB0.out.below hb2 lB).alloc (.cells (cV P a3 cap3) 26))
      have HO3 := Lib.hid (show Own (w2.alloc (.cells (cV P a3 cap3) 26)) W0.heap.size (w2.alloc (.cells (cV P a3 cap3) 26)).heap.size a3 cap3 P.l from (hown.agree (fun f _ h2 => (below1 w2 _).block f h2)).more (Nat.le_refl _) (by simp))
      have H3 := Lib.hid ((H0.out.trans (hb2.mono (by omega))).trans ((below1 w2 (.cells (cV P a3 cap3) 26)).mono (by omega)))
      obtain ⟨X, hX⟩ : ∃ X, w2.heap.size = X := ⟨_, rfl⟩
      rw [hX] at HN
      try rw [hX]
      have hRX : R < X := by omega
      clear hown hb2 hX r0 r1 r2 r3 r4
      generalize w2.alloc (.cells (cV P a3 cap3) 26) = w3 at *
      obtain ⟨r0, r1, r2, r3, r4⟩ := HB3.out.cells5
      have lB3 := HB3.out.lt
      simp only [List.length_nil] at r4
      go_wp2_with fail
      go_loopw [5] (fun i wr => i = .int .i64 0 ∧ wr = w3) (fun _ _ => 0)
      case atStart => exact ⟨rfl, rfl⟩
      case round =>
        obtain ⟨rfl, hwr⟩ := hrel
        subst hwr
        rename World => w3
        obtain ⟨y0, y1, y2, y3, y4⟩ := HN.out.cells5
        have lX := HN.out.lt
        have lg3 := HR3.out.lt
        go_wp2_with fail
        refine (spec_OnceLast P a3 cap3 w3.heap.size w3 HO3.out.read HWP.out HCP.out (Nat.le_refl _)).mono ?_
        rintro e w4 ⟨a4, cap4, rfl, hown4, hb4⟩
        rw [onceT_nil HPL.out] at hown4 ⊢
        have p3 := HR3.out.below hb4 lg3
        have f3 := fun i => p3.frozen i
        have lg4 := p3.lt
        obtain ⟨o0, o1, o2, o3, o4⟩ := p3.cells5
        have HB4 := Lib.hid (H3.out.trans (hb4.mono (by have := H3.out.size; omega)))
        have hsw := H3.out.size
        go_wp2_with fail
        obtain ⟨e0, e1, e2, e3, e4, hbel, hold, hsz3⟩ := out5 p3.blk (.int .i64 P.k) (.int .i64 P.n) (.int .i64 P.x) (.string P.s) (.slice a4 P.l.length cap4) w.heap.size (by omega)
        exact bodyPost_ret (v := .agg (cV P a4 cap4)) (by simp [results, Tryz.results85, go_sem, e0, e1, e2, e3, e4]) rfl ⟨a4, cap4, rfl, HWP.out, hown4.fin hold hsz3 (by omega) (by omega), HB4.out.trans hbel⟩
    have hk910 : k = 9 ∨ k = 10 := by have := own_kinds HQ.out; omega
    obtain ⟨rfl, rfl, rfl⟩ : n = 0 ∧ x = 0 ∧ s = ⟨#[]⟩ := by
      rcases hk910 with rfl | rfl
      · obtain ⟨h1, h2, h3⟩ := (own9 _ _ _ _).1 HQ.out; exact ⟨h3, h2, bytes_nil h1⟩
      · obtain ⟨h1, h2, h3, _⟩ := (own10 _ _ _ _).1 HQ.out; exact ⟨h3, h2, bytes_nil h1⟩
    obtain ⟨m, hm⟩ : ∃ m, decide (k = 10) = m := ⟨_, rfl⟩
    have HEU := Lib.hid (show onceT (.mk k 0 0 ⟨#[]⟩ (nuL m true l)) = P from by rw [onceT_eq, nuL_once m true HOC.out, ← HP.out, nuT, if_neg k11, if_pos hk910, hm])
    have HM := Lib.hid hm
    have HCT := Lib.hid (show T.countL l + 1 ≤ 1073741824 from by simpa only [T.count] using hct)
    have HWP := Lib.hid (show Wf P from by rw [← HEU.out]; exact onceT_wf HWF.out)
    have hwfk : Wf (.mk k 0 0 ⟨#[]⟩ l) := HWF.out
    have HLF := Lib.hid (spec_LeafFor_list k 0 0 ⟨#[]⟩ hk910 W0)
    clear HP HQ hm hct
    go_wp2_with fail
    refine HLF.out.mono ?_
    rintro e w2 ⟨a3, cap3, rfl, happ, hb2⟩
    have hs2 := hb2.size
    go_upto_region 4 with (fail)
    obtain ⟨LO, hLO⟩ : ∃ LO, W0.heap.size = LO := ⟨_, rfl⟩
    obtain ⟨V, hV⟩ : ∃ V, w2.heap.size = V := ⟨_, rfl⟩
    rw [hLO] at hs0R hs1R lB hb2 hs2 happ
    rw [hV] at happ hs2
    have hb3 := below1 w2 (.cells #[.int .i64 k, .int .i64 0, .int .i64 0, .string ⟨#[]⟩, .slice a3 0 cap3] 26)
    rw [hV] at hb3
    try rw [hV]
    have HVn := Lib.hid (show Is (w2.alloc (.cells #[.int .i64 k, .int .i64 0, .int .i64 0, .string ⟨#[]⟩, .slice a3 0 cap3] 26)) V 26 #[.int .i64 k, .int .i64 0, .int .i64 0, .string ⟨#[]⟩, .slice a3 0 cap3] from hV ▸ Is.new w2 _ _)
    have HAn := Lib.hid (show App (EX V TV) 5 26 True (w2.alloc (.cells #[.int .i64 k, .int .i64 0, .int .i64 0, .string ⟨#[]⟩, .slice a3 0 cap3] 26)) LO (w2.alloc (.cells #[.int .i64 k, .int .i64 0, .int .i64 0, .string ⟨#[]⟩, .slice a3 0 cap3] 26)).heap.size a3 cap3 [] from
      ((happ.ex (Nat.le_refl _)).below (EX.elem V TV.elem) hb3 (Nat.le_refl _)).more (Nat.le_refl _) (by simp; omega))
    have HRWn := Lib.hid (show ∀ k, (Value.slice a3 0 cap3).ownBlock = some k → k ≠ V from fun k hk => by have := (happ.row k hk).2; omega)
    have HBn := Lib.hid (show Below LO W0 (w2.alloc (.cells #[.int .i64 k, .int .i64 0, .int .i64 0, .string ⟨#[]⟩, .slice a3 0 cap3] 26)) from hb2.trans (hb3.mono hs2))
    have HC0 := Lib.hid HB0.out; have HRR := Lib.hid HR0.out
    clear happ hb2 hb3 HLF r0 r1 r2 r3 r4 HB0 HR0 hV hLO
    generalize w2.alloc (.cells #[.int .i64 k, .int .i64 0, .int .i64 0, .string ⟨#[]⟩, .slice a3 0 cap3] 26) = w3 at *
    obtain ⟨r0, r1, r2, r3, r4⟩ := (HC0.out.below HBn.out lB).cells5
    have lB3 : w.heap.size < w3.heap.size := (HC0.out.below HBn.out lB).lt
    have hBLO : B ≤ LO := by omega
    go_wp2_with fail
    go_loopw [5] (fun iv wr => ∃ (j : Nat) (ts : List T) (ar : Option Addr) (cr : Nat), iv = .int .i64 j ∧ j ≤ l.length ∧ Hid (nuL m true (l.take j) = ts) ∧ Hid (ts.length = j) ∧ Hid (Is wr V 26 #[.int .i64 k, .int .i64 0, .int .i64 0, .string ⟨#[]⟩, .slice ar ts.length cr]) ∧ Hid (App (EX V TV) 5 26 True wr LO wr.heap.size ar cr ts) ∧ Hid (∀ k, (Value.slice ar ts.length cr).ownBlock = some k → k ≠ V) ∧ Hid (Below LO W0 wr)) (fun iv _ => l.length - (intOf iv).toNat)
    case atStart => exact ⟨0, [], a3, cap3, rfl, Nat.zero_le _, Lib.hid rfl, Lib.hid rfl, HVn, HAn, HRWn, HBn⟩
    case round =>
      clear HVn HAn HRWn HBn lB3 r0 r1 r2 r3 r4
      obtain ⟨j, ts, ar, cr, rfl, hj, HTS, HTL, HV, HA, HRW, HBR⟩ := hrel
      obtain ⟨r0, r1, r2, r3, r4⟩ := (HC0.out.below HBR.out lB).cells5
      have lBr : w.heap.size < wr.heap.size := (HC0.out.below HBR.out lB).lt
      have lV := HV.out.lt
      have hBr : B ≤ wr.heap.size := by omega
      have htl : ts.length ≤ 1048576 := by have := HTL.out; omega
      have hLOr : LO ≤ wr.heap.size := by omega
      by_cases hlt : j < l.length
      · have hltz : (j : Int) < (l.length : Int) := by omega
        obtain ⟨b, o, a2, cap2, rfl, hbl, d0, d1, d2, d3, d4, hwf, hq⟩ := (HRr.out.below HBR.out hBLO).get j hlt
        have hlb : b < wr.heap.size := by omega
        have HSU := Lib.hid (nuL_succ m l true j hlt)
        have hmem : l[j] ∈ l := List.getElem_mem hlt
        generalize l[j] = u at *
        have HWJ := Lib.hid hwf; have HQE := Lib.hid hq; have HMEM := Lib.hid hmem
        clear hwf hq hmem
        rcases (show ((k == 10) = true ∧ ((j : Int) % 2 == 0) = true ∧ (k = 10 ∧ j % 2 = 0)) ∨ (((k == 10) = true ∧ ((j : Int) % 2 == 0) = false) ∧ ¬ (k = 10 ∧ j % 2 = 0)) ∨ ((k == 10) = false ∧ ¬ (k = 10 ∧ j % 2 = 0)) from by
          by_cases h10 : k = 10
          · by_cases hj2 : j % 2 = 0
            · exact Or.inl ⟨by simpa using h10, by simp; omega, h10, hj2⟩
            · exact Or.inr (Or.inl ⟨⟨by simpa using h10, by simp; omega⟩, fun h => hj2 h.2⟩)
          · exact Or.inr (Or.inr ⟨by simpa using h10, fun h => h10 h.1⟩)) with ⟨hg0, hg1, hc⟩ | hrest
        · obtain ⟨y, hy⟩ : ∃ y, nfT u = y := ⟨_, rfl⟩
          have HSU2 := Lib.hid (show nuL m true (l.take (j + 1)) = nuL m true (l.take j) ++ [y] from by
            rw [HSU.out, ← hy, if_pos hc.2, ← HM.out, decide_eq_true hc.1, nuE_name (HOC.out u HMEM.out)])
          have HCALL := Lib.hid (show ∀ W : World, Rr W B a2 cap2 u.l → B ≤ W.heap.size → Calls Tryz.prog 29 #[.agg (cV u a2 cap2)] W fun e w' => ∃ a' cap', e = .returned (.agg (cV y a' cap')) ∧ Wf y ∧ Own w' W.heap.size w'.heap.size a' cap' y.l ∧ Below W.heap.size W w' from fun W h1 h3 => by rw [← hy]; exact INF.out u HMEM.out a2 cap2 B W h1 HWJ.out h3)
          clear HSU hc hy
          have HSU := HSU2; clear HSU2
          focus
            go_wp2_with fail
            refine (HCALL.out wr HQE.out (by omega)).mono ?_
            rintro e w5 ⟨a5, c5, rfl, hwf5, hown5, hb5⟩
            have hs5 := hb5.size
            obtain ⟨G, g1, g2, g3⟩ := hown5
            have hV5 := HV.out.below hb5 lV
            have ff := fun i => hV5.frozen i
            have lV5 := hV5.lt
            obtain ⟨v0, v1, v2, v3, v4⟩ := hV5.cells5
            have H2 := Lib.hid (below1 w5 (.cells (cV y a5 c5) 26))
            have H3 := Lib.hid (below1 (w5.alloc (.cells (cV y a5 c5) 26)) (.cells (cV y a5 c5) 26))
            have hV7 := (hV5.alloc (.cells (cV y a5 c5) 26)).alloc (.cells (cV y a5 c5) 26)
            have HB5 := Lib.hid hb5
            have hXa : wr.heap.size < w5.heap.size + 1 := by omega
            obtain ⟨a6, c6, w6, hrun, happ6, hb6, hout6, hsz6, hrow6⟩ := run_app3 (P := Tryz.prog) ((w5.alloc (.cells (cV y a5 c5) 26)).alloc (.cells (cV y a5 c5) 26)) (EX.elem V TV.elem) 24 24 (.agg zV) 64 Tryz.underlying24 info_Val rfl LO wr.heap.size ar cr ts (((HA.out.below (EX.elem V TV.elem) hb5 (Nat.le_refl _)).below (EX.elem V TV.elem) H2.out (by omega)).below (EX.elem V TV.elem) H3.out (by simp; omega)) (by simp; omega) (by omega) (w5.heap.size + 1) 0 1 y G
              ⟨by have := TV.box (w := w5.alloc (.cells (cV y a5 c5) 26)) 26 (g1.agree (fun f hf => H2.out.block f (g3 f hf).2.2.lt)) hwf5 (fun f hf => by have := (g3 f hf).2.2.lt; simp; omega); rw [size_alloc] at this; exact this, fun hm => by have := (g3 V hm).1; omega⟩ g2
              (fun f hf => ⟨(g3 f hf).1, by have := (g3 f hf).2.1; simp; omega, ((g3 f hf).2.2.alloc _).alloc _⟩) (by simp [maxLen]; omega) (by omega)
            have hx6 := hV7.agree (hout6 V (by simp; omega) (fun k hk e => HRW.out k hk e.symm))
            obtain ⟨ts3, hts3⟩ : ∃ ts3, ts ++ [y] = ts3 := ⟨_, rfl⟩
            rw [hts3] at hrun happ6 hrow6
            have HT3 := Lib.hid hts3; clear hts3
            have ff6 := fun i => hx6.frozen i
            have lg6 := hx6.lt
            obtain ⟨y0, y1, y2, y3, y4⟩ := hx6.cells5
            have HX6 := Lib.hid hx6; have HP6 := Lib.hid happ6; have HB6 := Lib.hid hb6; have HO6 := Lib.hid hout6; have HR6 := Lib.hid hrow6; have HG1 := Lib.hid g1
            clear hx6 happ6 hb6 hout6 hrow6 g1 g2 g3 hV7 hb5 hwf5
            go_wp2_with (at_builtin; refine Lib.wpList_append_run _ rfl _ _ _ _ rfl _ _ rfl rfl _ _ hrun ?_)
            have HV7 := Lib.hid (HX6.out.set 4 (.slice a6 ts3.length c6))
            have HA7 := Lib.hid (show App (EX V TV) 5 26 True (w6.setCell ⟨V, 4, none⟩ (.slice a6 ts3.length c6)) LO (w6.setCell ⟨V, 4, none⟩ (.slice a6 ts3.length c6)).heap.size a6 c6 ts3 from by
              rw [size_set]; exact App.setV HP6.out (fun k hk => by rcases HR6.out k hk with h | h; exact HRW.out k h; rw [h]; simp; omega) 4 _)
            have HRW7 := Lib.hid (show ∀ k, (Value.slice a6 ts3.length c6).ownBlock = some k → k ≠ V from fun k hk => by rcases HR6.out k hk with h | h; exact HRW.out k h; rw [h]; simp; omega)
            have HB7 := Lib.hid (show Below LO W0 (w6.setCell ⟨V, 4, none⟩ (.slice a6 ts3.length c6)) from
              ((((HBR.out.trans (HB5.out.mono (by omega))).trans (H2.out.mono (by omega))).trans (H3.out.mono (by simp; omega))).trans HB6.out).trans ((below1s w6 V 4 _).mono (by omega)))
            clear HX6 HP6 HB6 HO6 HR6 HB5 H2 H3 ff ff6 lg6 y0 y1 y2 y3 y4 v0 v1 v2 v3 v4 hsz6 hrun HV HA HRW HBR HCALL HQE
            generalize w6.setCell ⟨V, 4, none⟩ (.slice a6 ts3.length c6) = w7 at *
            have HLN := Lib.hid (show ts3.length = j + 1 from by rw [← HT3.out, List.length_append, HTL.out]; rfl)
            have HTS3 := Lib.hid (show nuL m true (l.take (j + 1)) = ts3 from by rw [HSU.out, HTS.out, HT3.out])
            go_roundw
            case rel => exact ⟨j + 1, ts3, a6, c6, by go_num, by omega, HTS3, HLN, HV7, HA7, HRW7, HB7⟩
            case measure => simp [intOf]; omega
        · obtain ⟨y, hy⟩ : ∃ y, nuT u = y := ⟨_, rfl⟩
          have HSU2 := Lib.hid (show nuL m true (l.take (j + 1)) = nuL m true (l.take j) ++ [y] from by
            have hc : ¬ (k = 10 ∧ j % 2 = 0) := by rcases hrest with h | h <;> exact h.2
            rw [HSU.out, ← hy, ← HM.out]
            unfold nuE
            by_cases h10 : k = 10
            · rw [if_neg (show ¬ j % 2 = 0 from fun h => hc ⟨h10, h⟩), if_neg (by simp)]
            · rw [decide_eq_false h10, if_neg (by simp)])
          have HCALL := Lib.hid (show ∀ W : World, Rr W B a2 cap2 u.l → B ≤ W.heap.size → Calls Tryz.prog 85 #[.agg (cV u a2 cap2)] W fun e w' => ∃ a' cap', e = .returned (.agg (cV y a' cap')) ∧ Wf y ∧ Own w' W.heap.size w'.heap.size a' cap' y.l ∧ Below W.heap.size W w' from fun W h1 h3 => by rw [← hy]; exact IH.out u HMEM.out a2 cap2 B W h1 HWJ.out h3)
          clear HSU hy
          have HSU := HSU2; clear HSU2
          rcases hrest with ⟨⟨hg0, hg1⟩, _⟩ | ⟨hg1, _⟩
          all_goals
            skip
            go_wp2_with fail
            refine (HCALL.out wr HQE.out (by omega)).mono ?_
            rintro e w5 ⟨a5, c5, rfl, hwf5, hown5, hb5⟩
            have hs5 := hb5.size
            obtain ⟨G, g1, g2, g3⟩ := hown5
            have hV5 := HV.out.below hb5 lV
            have ff := fun i => hV5.frozen i
            have lV5 := hV5.lt
            obtain ⟨v0, v1, v2, v3, v4⟩ := hV5.cells5
            have H2 := Lib.hid (below1 w5 (.cells (cV y a5 c5) 26))
            have H3 := Lib.hid (below1 (w5.alloc (.cells (cV y a5 c5) 26)) (.cells (cV y a5 c5) 26))
            have hV7 := (hV5.alloc (.cells (cV y a5 c5) 26)).alloc (.cells (cV y a5 c5) 26)
            have HB5 := Lib.hid hb5
            have hXa : wr.heap.size < w5.heap.size + 1 := by omega
            obtain ⟨a6, c6, w6, hrun, happ6, hb6, hout6, hsz6, hrow6⟩ := run_app3 (P := Tryz.prog) ((w5.alloc (.cells (cV y a5 c5) 26)).alloc (.cells (cV y a5 c5) 26)) (EX.elem V TV.elem) 24 24 (.agg zV) 64 Tryz.underlying24 info_Val rfl LO wr.heap.size ar cr ts (((HA.out.below (EX.elem V TV.elem) hb5 (Nat.le_refl _)).below (EX.elem V TV.elem) H2.out (by omega)).below (EX.elem V TV.elem) H3.out (by simp; omega)) (by simp; omega) (by omega) (w5.heap.size + 1) 0 1 y G
              ⟨by have := TV.box (w := w5.alloc (.cells (cV y a5 c5) 26)) 26 (g1.agree (fun f hf => H2.out.block f (g3 f hf).2.2.lt)) hwf5 (fun f hf => by have := (g3 f hf).2.2.lt; simp; omega); rw [size_alloc] at this; exact this, fun hm => by have := (g3 V hm).1; omega⟩ g2
              (fun f hf => ⟨(g3 f hf).1, by have := (g3 f hf).2.1; simp; omega, ((g3 f hf).2.2.alloc _).alloc _⟩) (by simp [maxLen]; omega) (by omega)
            have hx6 := hV7.agree (hout6 V (by simp; omega) (fun k hk e => HRW.out k hk e.symm))
            obtain ⟨ts3, hts3⟩ : ∃ ts3, ts ++ [y] = ts3 := ⟨_, rfl⟩
            rw [hts3] at hrun happ6 hrow6
            have HT3 := Lib.hid hts3; clear hts3
            have ff6 := fun i => hx6.frozen i
            have lg6 := hx6.lt
            obtain ⟨y0, y1, y2, y3, y4⟩ := hx6.cells5
            have HX6 := Lib.hid hx6; have HP6 := Lib.hid happ6; have HB6 := Lib.hid hb6; have HO6 := Lib.hid hout6; have HR6 := Lib.hid hrow6; have HG1 := Lib.hid g1
            clear hx6 happ6 hb6 hout6 hrow6 g1 g2 g3 hV7 hb5 hwf5
            go_wp2_with (at_builtin; refine Lib.wpList_append_run _ rfl _ _ _ _ rfl _ _ rfl rfl _ _ hrun ?_)
            have HV7 := Lib.hid (HX6.out.set 4 (.slice a6 ts3.length c6))
            have HA7 := Lib.hid (show App (EX V TV) 5 26 True (w6.setCell ⟨V, 4, none⟩ (.slice a6 ts3.length c6)) LO (w6.setCell ⟨V, 4, none⟩ (.slice a6 ts3.length c6)).heap.size a6 c6 ts3 from by
              rw [size_set]; exact App.setV HP6.out (fun k hk => by rcases HR6.out k hk with h | h; exact HRW.out k h; rw [h]; simp; omega) 4 _)
            have HRW7 := Lib.hid (show ∀ k, (Value.slice a6 ts3.length c6).ownBlock = some k → k ≠ V from fun k hk => by rcases HR6.out k hk with h | h; exact HRW.out k h; rw [h]; simp; omega)
            have HB7 := Lib.hid (show Below LO W0 (w6.setCell ⟨V, 4, none⟩ (.slice a6 ts3.length c6)) from
              ((((HBR.out.trans (HB5.out.mono (by omega))).trans (H2.out.mono (by omega))).trans (H3.out.mono (by simp; omega))).trans HB6.out).trans ((below1s w6 V 4 _).mono (by omega)))
            clear HX6 HP6 HB6 HO6 HR6 HB5 H2 H3 ff ff6 lg6 y0 y1 y2 y3 y4 v0 v1 v2 v3 v4 hsz6 hrun HV HA HRW HBR HCALL HQE
            generalize w6.setCell ⟨V, 4, none⟩ (.slice a6 ts3.length c6) = w7 at *
            have HLN := Lib.hid (show ts3.length = j + 1 from by rw [← HT3.out, List.length_append, HTL.out]; rfl)
            have HTS3 := Lib.hid (show nuL m true (l.take (j + 1)) = ts3 from by rw [HSU.out, HTS.out, HT3.out])
            go_roundw
            case rel => exact ⟨j + 1, ts3, a6, c6, by go_num, by omega, HTS3, HLN, HV7, HA7, HRW7, HB7⟩
            case measure => simp [intOf]; omega
      · obtain rfl : j = l.length := by omega
        have hltz : ¬ (l.length : Int) < (l.length : Int) := by omega
        have HTS2 := Lib.hid (show nuL m true l = ts from by have := HTS.out; rwa [List.take_length] at this)
        have HEP := Lib.hid (show onceT (.mk k 0 0 ⟨#[]⟩ ts) = P from by rw [← HTS2.out]; exact HEU.out)
        have HCN := Lib.hid (show T.count (.mk k 0 0 ⟨#[]⟩ ts) ≤ 1073741824 from by
          have := nuL_countL m l true (fun u _ => nuT_count u)
          rw [HTS2.out] at this
          have := HCT.out
          simp only [T.count]; omega)
        have HWK := Lib.hid (show Wf (.mk k 0 0 ⟨#[]⟩ ts) from hwfk)
        have HOL := Lib.hid (spec_OnceLast (.mk k 0 0 ⟨#[]⟩ ts) ar cr wr.heap.size wr (show R' wr wr.heap.size ar cr ts from App.readV HA.out) HWK.out HCN.out (Nat.le_refl _))
        rw [HEP.out] at HOL
        obtain ⟨v0, v1, v2, v3, v4⟩ := HV.out.cells5
        have p2 := HRR.out.below HBR.out hs0R
        have hlb2 : R < wr.heap.size := by omega
        clear HTS HTS2 HEU hlt hj
        go_wp2_with fail
        refine HOL.out.mono ?_
        rintro e w4 ⟨a4, cap4, rfl, hown4, hb4⟩
        have p3 := p2.below hb4 hlb2
        have f3 := fun i => p3.frozen i
        have lg3 := p3.lt
        obtain ⟨o0, o1, o2, o3, o4⟩ := p3.cells5
        have HB4 := Lib.hid ((H0.out.trans (HBR.out.mono (by have := H0.out.size; omega))).trans (hb4.mono (by omega)))
        go_wp2_with fail
        obtain ⟨e0, e1, e2, e3, e4, hbel, hold, hsz3⟩ := out5 p3.blk (.int .i64 P.k) (.int .i64 P.n) (.int .i64 P.x) (.string P.s) (.slice a4 P.l.length cap4) w.heap.size (by omega)
        exact bodyPost_ret (v := .agg (cV P a4 cap4)) (by simp [results, Tryz.results85, go_sem, e0, e1, e2, e3, e4]) rfl ⟨a4, cap4, rfl, HWP.out, hown4.fin hold hsz3 (by omega) (by omega), HB4.out.trans hbel⟩
end Go.Proofs.YtggdenkmohnijaaGreatDoor
