/- Texts of this proof, merged: RdrI, PkL, PkM, PkN, LawPackeds. No condition beyond what each theorem states. -/
import Derived.Test.YtohfljaaaojjmaaGreatDoorZK22
import Derived.Test.YtohfljaaaojjmaaGreatDoorZK23
import Derived.Test.YtohfljaaaojjmaaGreatDoorZK24
import Derived.Test.YtohfljaaaojjmaaGreatDoorZK25
import Derived.Test.YtohfljaaaojjmaaGreatDoorZK26
import Derived.Test.YtohfljaaaojjmaaGreatDoorZK27
import Derived.Test.YtohfljaaaojjmaaGreatDoorZK19
set_option linter.unusedSimpArgs false
set_option linter.unnecessarySimpa false
namespace Go.Proofs.YtohfljaaaojjmaaGreatDoor
open Go.ChangeShapes Go.WideShapes Go.ChangeAt Go.RowKit Go.Joins
set_option linter.unusedVariables false
set_option maxRecDepth 100000
set_option maxHeartbeats 16000000 in
theorem impl_pvalue (A : Nat) (a : Option Addr) (cap : Nat) (bs : List Int) (hlen : bs.length ≤ 1073741824) : ∀ d : Nat, ∀ (deep : Int) (p : Nat) (w : World), deep.toNat = d → I64 deep → p ≤ bs.length → Pr w A a cap bs p 0 → Env A w →
    Calls Tryz.prog 87 #[.pointer (some ⟨A, 0, none⟩), .int .i64 deep] w fun e w' => RdO A a cap bs p w (rdP d (bs.drop p)) e w' := by
  intro d
  induction d with
  | zero =>
    intro deep p w hd hI hpl hp _
    obtain ⟨hI0, hI1⟩ := hI
    have hlA := hp.lt
    have HP := Lib.hid (hp.below (below1 w (.cells zV 26)) hlA)
    have HI := Lib.hid (Is.new w zV 26)
    have HK := Lib.hid (Kp.alloc (w := w) (Nat.le_of_lt hlA) (.cells zV 26))
    have hdz : deep < 1 := by omega
    have HR := Lib.hid (show rdP 0 (bs.drop p) = .error 2 from rfl)
    rw [HR.out]
    clear hp hd
    go_enter Tryz.func87, Tryz.ntmps87
    go_wp2_with fail
    refine (impl_pfail A a cap bs p 0 2 _ HP.out).mono ?_
    rintro e w2 ⟨rfl, hp2, hk2⟩
    have p2 := hk2.is HI.out (by omega)
    have f2 := fun i => p2.frozen i
    have l2 := p2.lt
    obtain ⟨o0, o1, o2, o3, o4⟩ := p2.cells5
    go_wp2_with fail
    obtain ⟨e0, e1, e2, e3, e4, hbel, hold, hsz⟩ := out5 p2.blk (.int .i64 0) (.int .i64 0) (.int .i64 0) (.string ⟨#[]⟩) (.slice none 0 0) w.heap.size (Nat.le_refl _)
    refine bodyPost_ret (v := .agg zV) (by simp [results, Tryz.results87, go_sem, e0, e1, e2, e3, e4]) rfl (Or.inr ⟨2, (p : Int), rfl, Or.inr rfl, rfl, hp2.below hbel hlA, Kp.grow (HK.out.trans hk2) hbel (Nat.le_of_lt hlA)⟩)
  | succ d ih =>
    intro deep p w hd hI hpl hp henv
    cases hmr : markR (bs.drop p) with
    | error c => exact pv_error A a cap bs hlen d ih deep p w hd hI hpl hp henv c hmr
    | ok knu =>
      obtain ⟨k, n, u⟩ := knu
      by_cases h7 : k = 7
      · by_cases hl : bs.length - (p + u) < n.toNat
        · exact pv_7_lt A a cap bs hlen d ih deep p w hd hI hpl hp henv k n u hmr ⟨h7, hl⟩
        · by_cases hc : cap = p + u
          · exact pv_7_eq A a cap bs hlen d ih deep p w hd hI hpl hp henv k n u hmr ⟨h7, hl, hc⟩
          · exact pv_7_ne A a cap bs hlen d ih deep p w hd hI hpl hp henv k n u hmr ⟨h7, hl, hc⟩
      by_cases h8 : k = 8
      · by_cases hl : bs.length - (p + u) < n.toNat
        · exact pv_8_lt A a cap bs hlen d ih deep p w hd hI hpl hp henv k n u hmr ⟨h8, hl⟩
        · by_cases hc : cap = p + u
          · exact pv_8_eq A a cap bs hlen d ih deep p w hd hI hpl hp henv k n u hmr ⟨h8, hl, hc⟩
          · exact pv_8_ne A a cap bs hlen d ih deep p w hd hI hpl hp henv k n u hmr ⟨h8, hl, hc⟩
      by_cases h4 : k = 4
      · exact pv_4 A a cap bs hlen d ih deep p w hd hI hpl hp henv k n u hmr h4
      by_cases h9 : k = 9
      · exact pv_9 A a cap bs hlen d ih deep p w hd hI hpl hp henv k n u hmr h9
      by_cases h10 : k = 10
      · exact pv_10 A a cap bs hlen d ih deep p w hd hI hpl hp henv k n u hmr h10
      exact pv_else A a cap bs hlen d ih deep p w hd hI hpl hp henv k n u hmr ⟨h4, h7, h8, h9, h10⟩
theorem laws_same (p : List Int) (a a' : Option Addr) (cap cap' B : Nat) (w : World) (hr : Rd EByte 1 w B a cap p) (hr' : Rd EByte 1 w B a' cap' p) (hB : B ≤ w.heap.size) :
    Calls Tryz.prog 15 #[.slice a p.length cap, .slice a' p.length cap'] w fun e w' => e = .returned (.bool true) ∧ Below w.heap.size w w' := by
  obtain ⟨hl1, hl2⟩ := hr.len
  obtain ⟨hm1, hm2⟩ := hr'.len
  have HR := Lib.hid hr; have HR' := Lib.hid hr'; clear hr hr'
  go_enter Tryz.func15, Tryz.ntmps15
  go_wp2_with fail
  go_loopw [5] (fun i wr => ∃ (j : Nat), j ≤ p.length ∧ i = .int .i64 j ∧ Below w.heap.size w wr) (fun i _ => p.length - (intOf i).toNat)
  case atStart => exact ⟨0, Nat.zero_le _, rfl, Below.refl _ _⟩
  case round =>
    obtain ⟨j, hj, rfl, hb⟩ := hrel
    have hbs := hb.size
    by_cases hlt : j < p.length
    · have hltz : (j : Int) < (p.length : Int) := by omega
      obtain ⟨b, o, rfl, hbl, d0, _, _⟩ := (HR.out.below EByte.loc hb hB).byte j hlt
      obtain ⟨b', o', rfl, hbl', d0', _, _⟩ := (HR'.out.below EByte.loc hb hB).byte j hlt
      have l1 : b < wr.heap.size := by omega
      have l2 : b' < wr.heap.size := by omega
      generalize p[j] = x at *
      have hxx : (x != x) = false := by simp
      go_wp2_with fail
      try go_quiet (fail)
      go_wp2_with fail
      go_roundw
      case rel => exact ⟨j + 1, by omega, by go_num, by first | exact hb | exact hb.drew | exact hb.trans (below_drewN _ _ _)⟩
      case measure => simp [intOf]; omega
    · have hltz : ¬ (j : Int) < (p.length : Int) := by omega
      go_wp2_with fail
      go_ret
      exact ⟨rfl, hb⟩
theorem Is.dr {w : World} {g : Nat} {e : TypeId} {cs : Array Value} (h : Is w g e cs) : Is w.drew g e cs := h.agree rfl
theorem Env.more {B B' : Nat} {w : World} (h : Env B w) (hB : B ≤ B') : Env B' w := ⟨fun v hv => h.1 v (hv.mono hB), fun v hv => h.2 v (hv.mono hB)⟩
def GetO (n : Nat) (w : World) (r : Except Int (T × Nat)) (e : Ending) (w' : World) : Prop :=
  (∃ t u a' cap', r = .ok (t, u) ∧ e = .returned (.tuple #[.agg (cV t a' cap'), .int .i64 (u : Nat), .int .i64 0]) ∧ Wf t ∧ u ≤ n ∧ Rn TV 5 w' w.heap.size a' cap' t.l ∧ Below w.heap.size w w') ∨
  (∃ c, r = .error c ∧ (c = 1 ∨ c = 2) ∧ e = .returned (.tuple #[.agg zV, .int .i64 0, .int .i64 c]) ∧ Below w.heap.size w w')
set_option maxHeartbeats 8000000 in
theorem impl_GetPacked0 (bs : List Int) (a : Option Addr) (cap B : Nat) (deep : Int) (w : World) (hr : Rd EByte 1 w B a cap bs) (hB : B ≤ w.heap.size) (hl : bs.length ≤ 1073741824) (hI : I64 deep) (he : Env B w) :
    Calls Tryz.prog 47 #[.slice a bs.length cap, .int .i64 0, .int .i64 deep] w fun e w' => GetO bs.length w (rdP deep.toNat bs) e w' := by
  obtain ⟨hlc, hcap⟩ := hr.len
  have hb1 := below1 w (.cells zV 26)
  have HQ0 := Is.new w zV 26
  obtain ⟨w1, hw1⟩ : ∃ w1, w.alloc (.cells zV 26) = w1 := ⟨_, rfl⟩
  have hs1 : w1.heap.size = w.heap.size + 1 := by rw [← hw1]; simp
  rw [hw1] at hb1 HQ0
  obtain ⟨w2, hw2⟩ : ∃ w2, w1.alloc (.cells #[.slice a bs.length cap, .int .i64 0, .int .i64 0] 75) = w2 := ⟨_, rfl⟩
  have hb2 : Below w1.heap.size w1 w2 := hw2 ▸ below1 w1 _
  have HA := Lib.hid (show Is w2 w1.heap.size 75 #[.slice a bs.length cap, .int .i64 0, .int .i64 0] from hw2 ▸ Is.new w1 _ _)
  have HQ := Lib.hid (HQ0.below hb2 (by omega))
  have HB2 := Lib.hid (show Below w.heap.size w w2 from hb1.trans (hb2.mono (by omega)))
  have HP := Lib.hid (show Pr w2 w1.heap.size a cap bs ((0 : Nat) : Int) 0 from ⟨HA.out, (hr.below EByte.loc HB2.out hB).more (by omega)⟩)
  have HE := Lib.hid ((he.step (HB2.out.mono hB)).more (show B ≤ w1.heap.size from by omega))
  have hlt2 : w1.heap.size < w2.heap.size := HA.out.lt
  clear hr hb1 HQ0 hb2 he
  have HVAL := Lib.hid (impl_pvalue w1.heap.size a cap bs hl deep.toNat deep 0 w2 rfl hI (Nat.zero_le _) HP.out HE.out)
  rw [List.drop_zero] at HVAL
  obtain ⟨r, hrr⟩ : ∃ r, rdP deep.toNat bs = r := ⟨_, rfl⟩
  rw [hrr] at HVAL ⊢
  clear hrr
  go_enter Tryz.func47, Tryz.ntmps47
  obtain ⟨A, hA⟩ : ∃ A, w.heap.size + 1 = A := ⟨_, rfl⟩
  rw [hs1, hA] at HVAL HP HE hlt2
  rw [hA] at hs1
  have hwA : w.heap.size < A := by omega
  go_wp2_with fail
  try rw [hA]
  refine HVAL.out.mono ?_
  clear hw1 hw2 HVAL HA hs1
  rintro e w3 (⟨t, u, a', c', rfl, rfl, hwf, hul, hpr, happ, hk⟩ | ⟨c, q, rfl, hc, rfl, hpr, hk⟩)
  · have HQ3 := Lib.hid (hk.is HQ.out (by omega))
    have HP3 := Lib.hid hpr
    have HR3 := Lib.hid (happ.rn (Nat.le_refl _))
    have HB3 := Lib.hid (HB2.out.trans (hk.1.mono (by omega)))
    have hs3 := hk.size
    clear hpr happ hk
    obtain ⟨z0, z1, z2⟩ := HP3.out.1.cells3
    have lA := HP3.out.lt
    obtain ⟨r0, r1, r2, r3, r4⟩ := HQ3.out.cells5
    have fr := fun i => HQ3.out.frozen i
    have lR := HQ3.out.lt
    go_upto_region 5 with (fail)
    go_region
    obtain ⟨_, _, _, _, _, hbel, hold, hsz⟩ := out5 HQ3.out.blk (.int .i64 t.k) (.int .i64 t.n) (.int .i64 t.x) (.string t.s) (.slice a' t.l.length c') w.heap.size (Nat.le_refl _)
    have hI := (((((((HQ3.out.set 0 (.int .i64 t.k)).set 1 (.int .i64 t.n)).set 2 (.int .i64 t.x)).set 3 (.string t.s)).set 4 (.slice a' t.l.length c')).alloc (.cells (cV t a' c') 26)).dr)
    obtain ⟨e0, e1, e2, e3, e4⟩ := hI.cells5
    go_wp2_with fail
    refine bodyPost_ret (v := .tuple #[.agg (cV t a' c'), .int .i64 (u : Nat), .int .i64 0]) (by simp [results, Tryz.results47, go_sem, e0, e1, e2, e3, e4]) rfl ?_
    refine Or.inl ⟨t, u, a', c', rfl, rfl, hwf, by omega, ?_, ((HB3.out.trans hbel).trans ((below1 _ _).mono (by rw [hsz]; omega))).drew⟩
    have R1 := HR3.out.agree (w' := _) TV.elem.loc (fun f h1 _ => hold f (by omega)) (by rw [hsz]; exact Nat.le_refl _)
    exact ((R1.below TV.elem.loc (below1 _ _) (Nat.le_refl _)).below TV.elem.loc ((Below.refl _ _).drew) (Nat.le_refl _)).less (by omega)
  · have HQ3 := Lib.hid (hk.is HQ.out (by omega))
    have HP3 := Lib.hid hpr
    have HB3 := Lib.hid (HB2.out.trans (hk.1.mono (by omega)))
    have hs3 := hk.size
    clear hpr hk
    have hcb : (c != 0) = true := by simp; omega
    obtain ⟨z0, z1, z2⟩ := HP3.out.1.cells3
    have lA := HP3.out.lt
    obtain ⟨r0, r1, r2, r3, r4⟩ := HQ3.out.cells5
    have fr := fun i => HQ3.out.frozen i
    have lR := HQ3.out.lt
    go_upto_region 4 with (fail)
    go_region
    obtain ⟨_, _, _, _, _, hbel, hold, hsz⟩ := out5 HQ3.out.blk (.int .i64 0) (.int .i64 0) (.int .i64 0) (.string ⟨#[]⟩) (.slice none 0 0) w.heap.size (Nat.le_refl _)
    have hI := (((((((HQ3.out.set 0 (.int .i64 0)).set 1 (.int .i64 0)).set 2 (.int .i64 0)).set 3 (.string ⟨#[]⟩)).set 4 (.slice none 0 0)).alloc (.cells zV 26)).dr)
    obtain ⟨e0, e1, e2, e3, e4⟩ := hI.cells5
    go_wp2_with fail
    refine bodyPost_ret (v := .tuple #[.agg zV, .int .i64 0, .int .i64 c]) (by simp [results, Tryz.results47, go_sem, e0, e1, e2, e3, e4]) rfl ?_
    exact Or.inr ⟨c, rfl, hc, rfl, ((HB3.out.trans hbel).trans ((below1 _ _).mono (by rw [hsz]; omega))).drew⟩
set_option maxHeartbeats 8000000 in
theorem impl_ReadPacked_ok (bs : List Int) (t : T) (a : Option Addr) (cap B : Nat) (deep : Int) (w : World) (hr : Rd EByte 1 w B a cap bs) (hB : B ≤ w.heap.size) (hl : bs.length ≤ 1073741824) (hI : I64 deep) (he : Env B w) (hok : rdP deep.toNat bs = .ok (t, bs.length)) :
    Calls Tryz.prog 36 #[.slice a bs.length cap, .int .i64 deep] w fun e w' => ∃ a' cap', e = .returned (.tuple #[.agg (cV t a' cap'), .int .i64 0]) ∧ Rn TV 5 w' w.heap.size a' cap' t.l ∧ Wf t ∧ Below w.heap.size w w' := by
  have HQ := Lib.hid (Is.new w zV 26)
  have HB1 := Lib.hid (below1 w (.cells zV 26))
  have HGP := Lib.hid (impl_GetPacked0 bs a cap B deep (w.alloc (.cells zV 26)) (hr.below EByte.loc HB1.out hB) (by simp; omega) hl hI (he.step (HB1.out.mono hB)))
  clear hr he
  go_enter Tryz.func36, Tryz.ntmps36
  go_wp2_with fail
  refine HGP.out.mono ?_
  rintro e w2 (⟨t', u, a', c', hr2, rfl, hwf, hul, hrn, hb⟩ | ⟨c, hr2, _⟩)
  · rw [hok] at hr2
    cases hr2
    have hs2 := hb.size
    rw [size_alloc] at hs2
    have HQ2 := Lib.hid (HQ.out.below hb (by simp))
    have HR2 := Lib.hid hrn
    have HB2 := Lib.hid (HB1.out.trans (hb.mono (by simp)))
    clear hb hrn hok
    have hll : ¬ (bs.length : Int) < (bs.length : Int) := by omega
    obtain ⟨r0, r1, r2, r3, r4⟩ := HQ2.out.cells5
    have fr := fun i => HQ2.out.frozen i
    have lR := HQ2.out.lt
    go_wp2_with fail
    obtain ⟨_, _, _, _, _, hbel, hold, hsz⟩ := out5 HQ2.out.blk (.int .i64 t.k) (.int .i64 t.n) (.int .i64 t.x) (.string t.s) (.slice a' t.l.length c') w.heap.size (Nat.le_refl _)
    have hI := ((((((HQ2.out.set 0 (.int .i64 t.k)).set 1 (.int .i64 t.n)).set 2 (.int .i64 t.x)).set 3 (.string t.s)).set 4 (.slice a' t.l.length c')).alloc (.cells (cV t a' c') 26))
    obtain ⟨e0, e1, e2, e3, e4⟩ := hI.cells5
    refine bodyPost_ret (v := .tuple #[.agg (cV t a' c'), .int .i64 0]) (by simp [results, Tryz.results36, go_sem, e0, e1, e2, e3, e4]) rfl ⟨a', c', rfl, ?_, hwf, (HB2.out.trans hbel).trans ((below1 _ _).mono (by rw [hsz]; omega))⟩
    have R1 := HR2.out.agree (w' := _) TV.elem.loc (fun f h1 _ => hold f (by simp at h1; omega)) (by rw [hsz]; exact Nat.le_refl _)
    exact (R1.below TV.elem.loc (below1 _ _) (Nat.le_refl _)).less (by simp)
  · rw [hok] at hr2; cases hr2
set_option maxHeartbeats 8000000 in
theorem impl_ReadPacked_err (bs : List Int) (c : Int) (a : Option Addr) (cap B : Nat) (deep : Int) (w : World) (hr : Rd EByte 1 w B a cap bs) (hB : B ≤ w.heap.size) (hl : bs.length ≤ 1073741824) (hI : I64 deep) (he : Env B w) (hok : rdP deep.toNat bs = .error c) :
    Calls Tryz.prog 36 #[.slice a bs.length cap, .int .i64 deep] w fun e w' => e = .returned (.tuple #[.agg zV, .int .i64 c]) ∧ Below w.heap.size w w' := by
  have HQ := Lib.hid (Is.new w zV 26)
  have HB1 := Lib.hid (below1 w (.cells zV 26))
  have HGP := Lib.hid (impl_GetPacked0 bs a cap B deep (w.alloc (.cells zV 26)) (hr.below EByte.loc HB1.out hB) (by simp; omega) hl hI (he.step (HB1.out.mono hB)))
  clear hr he
  go_enter Tryz.func36, Tryz.ntmps36
  go_wp2_with fail
  refine HGP.out.mono ?_
  rintro e w2 (⟨t', u, a', c', hr2, _⟩ | ⟨c2, hr2, hc, rfl, hb⟩)
  · rw [hok] at hr2; cases hr2
  · rw [hok] at hr2
    cases hr2
    have hs2 := hb.size
    rw [size_alloc] at hs2
    have HQ2 := Lib.hid (HQ.out.below hb (by simp))
    have HB2 := Lib.hid (HB1.out.trans (hb.mono (by simp)))
    clear hb hok
    have hcb : (c != 0) = true := by simp; omega
    have hcc : (c == 0) = false := by simp; omega
    obtain ⟨r0, r1, r2, r3, r4⟩ := HQ2.out.cells5
    have fr := fun i => HQ2.out.frozen i
    have lR := HQ2.out.lt
    go_wp2_with fail
    obtain ⟨_, _, _, _, _, hbel, hold, hsz⟩ := out5 HQ2.out.blk (.int .i64 0) (.int .i64 0) (.int .i64 0) (.string ⟨#[]⟩) (.slice none 0 0) w.heap.size (Nat.le_refl _)
    have hI := ((((((HQ2.out.set 0 (.int .i64 0)).set 1 (.int .i64 0)).set 2 (.int .i64 0)).set 3 (.string ⟨#[]⟩)).set 4 (.slice none 0 0)).alloc (.cells zV 26))
    obtain ⟨e0, e1, e2, e3, e4⟩ := hI.cells5
    refine bodyPost_ret (v := .tuple #[.agg zV, .int .i64 c]) (by simp [results, Tryz.results36, go_sem, e0, e1, e2, e3, e4]) rfl ⟨rfl, (HB2.out.trans hbel).trans ((below1 _ _).mono (by rw [hsz]; omega))⟩
set_option maxHeartbeats 8000000 in
theorem impl_PackedOk_yes (bs : List Int) (t : T) (a : Option Addr) (cap B : Nat) (w : World) (hr : Rd EByte 1 w B a cap bs) (hB : B ≤ w.heap.size) (hl : bs.length ≤ 1073741824) (h0 : 0 < bs.length) (he : Env B w) (hok : rdP 20 bs = .ok (t, bs.length)) (hwr : writeKL t = bs) (hsz : T.sz t ≤ 1048576) :
    Calls Tryz.prog 42 #[.slice a bs.length cap] w fun e w' => e = .returned (.bool true) ∧ Below w.heap.size w w' := by
  have HR := Lib.hid hr; have HE := Lib.hid he; clear hr he
  have hI20 : I64 20 := ⟨by decide, by decide⟩
  have HRP := Lib.hid (impl_ReadPacked_ok bs t a cap B 20 w HR.out hB hl hI20 HE.out hok)
  have h0z : (0 : Int) < (bs.length : Int) := by omega
  go_enter Tryz.func42, Tryz.ntmps42
  go_wp2_with fail
  refine HRP.out.mono ?_
  rintro e w2 ⟨a', c', rfl, hrn, hwf, hb⟩
  have hs2 := hb.size
  have HT2 := Lib.hid (hrn.rd)
  have HB2 := Lib.hid hb
  have HW2 := Lib.hid hwf
  clear hb hrn hwf
  have HX := Lib.hid (Is.new w2 (cV t a' c') 26)
  have HT3 := Lib.hid (R.rd.2 (HT2.out.below TV.elem.loc (below1 w2 (.cells (cV t a' c') 26)) (Nat.le_refl _)))
  have HB3 := Lib.hid (HB2.out.trans ((below1 w2 (.cells (cV t a' c') 26)).mono hs2))
  obtain ⟨b, o, hae, hbB, _⟩ := HR.out.byte 0 h0
  subst hae
  go_upto_region 2 with (fail)
  obtain ⟨X, hX⟩ : ∃ X, w2.heap.size = X := ⟨_, rfl⟩
  rw [hX] at HX HT3
  have hs3 : X < (w2.alloc (.cells (cV t a' c') 26)).heap.size := by simp; omega
  try rw [hX]
  generalize w2.alloc (.cells (cV t a' c') 26) = w3 at *
  obtain ⟨x0, x1, x2, x3, x4⟩ := HX.out.cells5
  have hB3 : B ≤ w3.heap.size := by have := HB3.out.size; omega
  have HR3 := Lib.hid (HR.out.below EByte.loc HB3.out hB)
  have HE3 := Lib.hid (HE.out.step (HB3.out.mono hB))
  have hcvA := conv_rd w3 B b o cap bs HR3.out
  have hcvB := conv_rd w3.drew B b o cap bs (HR3.out.below EByte.loc ((Below.refl B _).drew) (Nat.le_refl _))
  refine wp_region_held_drew (S := fun w' => (∀ b o, b < w3.heap.size → w'.cell? ⟨b, o, none⟩ = w3.cell? ⟨b, o, none⟩) ∧ Below (w3.heap.size) w3 w') (by kernel_rfl) (by first | exact ⟨fun _ _ _ => rfl, (Below.refl _ _).drew⟩ | exact keep_step (by assumption) (Below.drew (Below.refl _ _)) (Nat.le_refl _) | exact keep_step (by assumption) (by assumption) (by first | omega | ((try simp only [World.size_drew, size_alloc]); omega) | (have := (‹(_ ∧ Below (w3.heap.size) w3 _)›).2.size; (try simp only [World.size_drew, size_alloc] at this ⊢); omega))) (fun hHeld => ?_)
  refine tkH (i := 0) (oi := ⟨some 10, _, _, _, _, _⟩) (v := ?_) rfl ?_ ?_
  rotate_left 1
  · (intro w hSw; (try dsimp only at hSw); go_simp; try (with_reducible rfl))
  try simp only [Act.put, List.setIfInBounds_toArray, List.set_cons_zero, List.set_cons_succ]
  refine tkH (i := 1) (oi := ⟨some 11, _, _, _, _, _⟩) (v := ?_) rfl ?_ ?_
  rotate_left 1
  · (intro w hSw; (try dsimp only at hSw); go_simp; try (with_reducible rfl))
  try simp only [Act.put, List.setIfInBounds_toArray, List.set_cons_zero, List.set_cons_succ]
  refine tkH (i := 2) (oi := ⟨some 12, _, _, _, _, _⟩) (v := ?_) rfl ?_ ?_
  rotate_left 1
  · (intro w hSw; (try dsimp only at hSw); go_simp; try (with_reducible rfl))
  try simp only [Act.put, List.setIfInBounds_toArray, List.set_cons_zero, List.set_cons_succ]
  refine tkH (i := 3) (oi := ⟨some 13, _, _, _, _, _⟩) (v := ?_) rfl ?_ ?_
  rotate_left 1
  · (intro w hSw; (try dsimp only at hSw); go_simp; try (with_reducible rfl))
  try simp only [Act.put, List.setIfInBounds_toArray, List.set_cons_zero, List.set_cons_succ]
  refine tkH (i := 4) (oi := ⟨some 14, _, _, _, _, _⟩) (v := ?_) rfl ?_ ?_
  rotate_left 1
  · (intro w hSw; (try dsimp only at hSw); go_simp; try (with_reducible rfl))
  try simp only [Act.put, List.setIfInBounds_toArray, List.set_cons_zero, List.set_cons_succ]
  refine tkH (i := 5) (oi := ⟨some 15, _, _, _, _, _⟩) (v := ?_) rfl ?_ ?_
  rotate_left 1
  · (intro w hSw; (try dsimp only at hSw); go_simp; try (with_reducible rfl))
  try simp only [Act.put, List.setIfInBounds_toArray, List.set_cons_zero, List.set_cons_succ]
  refine tkH (i := 6) (oi := ⟨some 16, _, _, _, _, _⟩) (v := ?_) rfl ?_ ?_
  rotate_left 1
  · (intro w hSw; (try dsimp only at hSw); go_simp; try (with_reducible rfl))
  try simp only [Act.put, List.setIfInBounds_toArray, List.set_cons_zero, List.set_cons_succ]
  refine tkH (i := 7) (oi := ⟨some 17, _, _, _, _, _⟩) (v := ?_) rfl ?_ ?_
  rotate_left 1
  · (intro w hSw; (try dsimp only at hSw); go_simp; try (with_reducible rfl))
  try simp only [Act.put, List.setIfInBounds_toArray, List.set_cons_zero, List.set_cons_succ]
  refine tkH (i := 8) (oi := ⟨some 18, _, _, _, _, _⟩) (v := ?_) rfl ?_ ?_
  rotate_left 1
  · (intro w hSw; (try dsimp only at hSw); go_simp; try (with_reducible rfl))
  try simp only [Act.put, List.setIfInBounds_toArray, List.set_cons_zero, List.set_cons_succ]
  refine tkH (i := 11) (oi := ⟨some 21, _, _, _, _, _⟩) (v := ?_) rfl ?_ ?_
  rotate_left 1
  · (intro w hSw; (try dsimp only at hSw); go_simp; try (with_reducible rfl))
  try simp only [Act.put, List.setIfInBounds_toArray, List.set_cons_zero, List.set_cons_succ]
  refine wpAnyH_ready (rs := [9, 12]) (by kernel_rfl) (by simp) ?_
  refine AllReadyH.cons (o := ⟨some 19, _, _, _, _, _⟩) rfl (fun K hK => ?_) ?_
  focus (go_simp; (first | (go_at_call 32; refine (impl_WritePacked t a' c' w3.heap.size _ ((HT3.out.more (by omega)).below (‹_ ∧ Below (w3.heap.size) w3 _›).2 (Nat.le_refl _)) HW2.out hsz ((HE3.out.more hB3).step (‹_ ∧ Below (w3.heap.size) w3 _›).2) ((‹_ ∧ Below (w3.heap.size) w3 _›).2.size)).mono ?_; rintro e w4 ⟨a4, c4, rfl, happ4, hb4⟩; rw [hwr] at happ4; rw [hwr]; have hcv4 := conv_bytes w4 _ a4 c4 bs [] happ4; have hcv0 := conv_rd w4 B b o cap bs (HR3.out.below EByte.loc ((‹_ ∧ Below (w3.heap.size) w3 _›).2.trans (hb4.mono (‹_ ∧ Below (w3.heap.size) w3 _›).2.size)) hB3))); go_wp2_with fail; refine hK.out _ _ (by first | exact ⟨fun _ _ _ => rfl, (Below.refl _ _).drew⟩ | exact keep_step (by assumption) (Below.drew (Below.refl _ _)) (Nat.le_refl _) | exact keep_step (by assumption) (by assumption) (by first | omega | ((try simp only [World.size_drew, size_alloc]); omega) | (have := (‹(_ ∧ Below (w3.heap.size) w3 _)›).2.size; (try simp only [World.size_drew, size_alloc] at this ⊢); omega))) (fun hHeld => ?_); clear hK K; try simp only [Act.put, List.setIfInBounds_toArray, List.set_cons_zero, List.set_cons_succ])
  refine wpAnyH_ready (rs := [10, 12]) (by kernel_rfl) (by simp) ?_
  refine AllReadyH.cons (o := ⟨some 20, _, _, _, _, _⟩) rfl (fun K hK => ?_) ?_
  focus (go_simp; go_wp2_with fail; refine hK.out _ _ (by first | assumption | first | exact ⟨fun _ _ _ => rfl, (Below.refl _ _).drew⟩ | exact keep_step (by assumption) (Below.drew (Below.refl _ _)) (Nat.le_refl _) | exact keep_step (by assumption) (by assumption) (by first | omega | ((try simp only [World.size_drew, size_alloc]); omega) | (have := (‹(_ ∧ Below (w3.heap.size) w3 _)›).2.size; (try simp only [World.size_drew, size_alloc] at this ⊢); omega))) (fun hHeld => ?_); clear hK K; try simp only [Act.put, List.setIfInBounds_toArray, List.set_cons_zero, List.set_cons_succ])
  refine wpAnyH_ready (rs := [12]) (by kernel_rfl) (by simp) ?_
  refine AllReadyH.cons (o := ⟨some 22, _, _, _, _, _⟩) rfl (fun K hK => ?_) AllReadyH.nil
  focus (go_simp; go_wp2_with fail; refine hK.out _ _ (by first | assumption | first | exact ⟨fun _ _ _ => rfl, (Below.refl _ _).drew⟩ | exact keep_step (by assumption) (Below.drew (Below.refl _ _)) (Nat.le_refl _) | exact keep_step (by assumption) (by assumption) (by first | omega | ((try simp only [World.size_drew, size_alloc]); omega) | (have := (‹(_ ∧ Below (w3.heap.size) w3 _)›).2.size; (try simp only [World.size_drew, size_alloc] at this ⊢); omega))) (fun hHeld => ?_); clear hK K; try simp only [Act.put, List.setIfInBounds_toArray, List.set_cons_zero, List.set_cons_succ])
  refine tkH (i := 13) (oi := ⟨some 23, _, _, _, _, _⟩) (v := ?_) rfl ?_ ?_
  rotate_left 1
  · (intro w hSw; (try dsimp only at hSw); go_simp; try (with_reducible rfl))
  try simp only [Act.put, List.setIfInBounds_toArray, List.set_cons_zero, List.set_cons_succ]
  refine tkH (i := 14) (oi := ⟨some 24, _, _, _, _, _⟩) (v := ?_) rfl ?_ ?_
  rotate_left 1
  · (intro w hSw; (try dsimp only at hSw); go_simp; try (with_reducible rfl))
  try simp only [Act.put, List.setIfInBounds_toArray, List.set_cons_zero, List.set_cons_succ]
  refine tkH (i := 15) (oi := ⟨some 2, _, _, _, _, _⟩) (v := ?_) rfl ?_ ?_
  rotate_left 1
  · (intro w hSw; (try dsimp only at hSw); go_simp; try (with_reducible rfl))
  try simp only [Act.put, List.setIfInBounds_toArray, List.set_cons_zero, List.set_cons_succ]
  refine wpAnyH_done (by kernel_rfl) ?_ _
  rotate_left 1
  refine AllReadyH.cons (o := ⟨some 22, _, _, _, _, _⟩) rfl (fun K hK => ?_) AllReadyH.nil
  focus (go_simp; go_wp2_with fail; refine hK.out _ _ (by first | assumption | first | exact ⟨fun _ _ _ => rfl, (Below.refl _ _).drew⟩ | exact keep_step (by assumption) (Below.drew (Below.refl _ _)) (Nat.le_refl _) | exact keep_step (by assumption) (by assumption) (by first | omega | ((try simp only [World.size_drew, size_alloc]); omega) | (have := (‹(_ ∧ Below (w3.heap.size) w3 _)›).2.size; (try simp only [World.size_drew, size_alloc] at this ⊢); omega))) (fun hHeld => ?_); clear hK K; try simp only [Act.put, List.setIfInBounds_toArray, List.set_cons_zero, List.set_cons_succ])
  refine wpAnyH_ready (rs := [10]) (by kernel_rfl) (by simp) ?_
  refine AllReadyH.cons (o := ⟨some 20, _, _, _, _, _⟩) rfl (fun K hK => ?_) AllReadyH.nil
  focus (go_simp; go_wp2_with fail; refine hK.out _ _ (by first | assumption | first | exact ⟨fun _ _ _ => rfl, (Below.refl _ _).drew⟩ | exact keep_step (by assumption) (Below.drew (Below.refl _ _)) (Nat.le_refl _) | exact keep_step (by assumption) (by assumption) (by first | omega | ((try simp only [World.size_drew, size_alloc]); omega) | (have := (‹(_ ∧ Below (w3.heap.size) w3 _)›).2.size; (try simp only [World.size_drew, size_alloc] at this ⊢); omega))) (fun hHeld => ?_); clear hK K; try simp only [Act.put, List.setIfInBounds_toArray, List.set_cons_zero, List.set_cons_succ])
  refine tkH (i := 13) (oi := ⟨some 23, _, _, _, _, _⟩) (v := ?_) rfl ?_ ?_
  rotate_left 1
  · (intro w hSw; (try dsimp only at hSw); go_simp; try (with_reducible rfl))
  try simp only [Act.put, List.setIfInBounds_toArray, List.set_cons_zero, List.set_cons_succ]
  refine tkH (i := 14) (oi := ⟨some 24, _, _, _, _, _⟩) (v := ?_) rfl ?_ ?_
  rotate_left 1
  · (intro w hSw; (try dsimp only at hSw); go_simp; try (with_reducible rfl))
  try simp only [Act.put, List.setIfInBounds_toArray, List.set_cons_zero, List.set_cons_succ]
  refine tkH (i := 15) (oi := ⟨some 2, _, _, _, _, _⟩) (v := ?_) rfl ?_ ?_
  rotate_left 1
  · (intro w hSw; (try dsimp only at hSw); go_simp; try (with_reducible rfl))
  try simp only [Act.put, List.setIfInBounds_toArray, List.set_cons_zero, List.set_cons_succ]
  refine wpAnyH_done (by kernel_rfl) ?_ _
  rotate_left 1
  refine AllReadyH.cons (o := ⟨some 22, _, _, _, _, _⟩) rfl (fun K hK => ?_) AllReadyH.nil
  focus (go_simp; go_wp2_with fail; refine hK.out _ _ (by first | assumption | first | exact ⟨fun _ _ _ => rfl, (Below.refl _ _).drew⟩ | exact keep_step (by assumption) (Below.drew (Below.refl _ _)) (Nat.le_refl _) | exact keep_step (by assumption) (by assumption) (by first | omega | ((try simp only [World.size_drew, size_alloc]); omega) | (have := (‹(_ ∧ Below (w3.heap.size) w3 _)›).2.size; (try simp only [World.size_drew, size_alloc] at this ⊢); omega))) (fun hHeld => ?_); clear hK K; try simp only [Act.put, List.setIfInBounds_toArray, List.set_cons_zero, List.set_cons_succ])
  refine wpAnyH_ready (rs := [9]) (by kernel_rfl) (by simp) ?_
  refine AllReadyH.cons (o := ⟨some 19, _, _, _, _, _⟩) rfl (fun K hK => ?_) AllReadyH.nil
  focus (go_simp; (first | (go_at_call 32; refine (impl_WritePacked t a' c' w3.heap.size _ ((HT3.out.more (by omega)).below (‹_ ∧ Below (w3.heap.size) w3 _›).2 (Nat.le_refl _)) HW2.out hsz ((HE3.out.more hB3).step (‹_ ∧ Below (w3.heap.size) w3 _›).2) ((‹_ ∧ Below (w3.heap.size) w3 _›).2.size)).mono ?_; rintro e w4 ⟨a4, c4, rfl, happ4, hb4⟩; rw [hwr] at happ4; rw [hwr]; have hcv4 := conv_bytes w4 _ a4 c4 bs [] happ4; have hcv0 := conv_rd w4 B b o cap bs (HR3.out.below EByte.loc ((‹_ ∧ Below (w3.heap.size) w3 _›).2.trans (hb4.mono (‹_ ∧ Below (w3.heap.size) w3 _›).2.size)) hB3))); go_wp2_with fail; refine hK.out _ _ (by first | exact ⟨fun _ _ _ => rfl, (Below.refl _ _).drew⟩ | exact keep_step (by assumption) (Below.drew (Below.refl _ _)) (Nat.le_refl _) | exact keep_step (by assumption) (by assumption) (by first | omega | ((try simp only [World.size_drew, size_alloc]); omega) | (have := (‹(_ ∧ Below (w3.heap.size) w3 _)›).2.size; (try simp only [World.size_drew, size_alloc] at this ⊢); omega))) (fun hHeld => ?_); clear hK K; try simp only [Act.put, List.setIfInBounds_toArray, List.set_cons_zero, List.set_cons_succ])
  refine wpAnyH_ready (rs := [10]) (by kernel_rfl) (by simp) ?_
  refine AllReadyH.cons (o := ⟨some 20, _, _, _, _, _⟩) rfl (fun K hK => ?_) AllReadyH.nil
  focus (go_simp; go_wp2_with fail; refine hK.out _ _ (by first | assumption | first | exact ⟨fun _ _ _ => rfl, (Below.refl _ _).drew⟩ | exact keep_step (by assumption) (Below.drew (Below.refl _ _)) (Nat.le_refl _) | exact keep_step (by assumption) (by assumption) (by first | omega | ((try simp only [World.size_drew, size_alloc]); omega) | (have := (‹(_ ∧ Below (w3.heap.size) w3 _)›).2.size; (try simp only [World.size_drew, size_alloc] at this ⊢); omega))) (fun hHeld => ?_); clear hK K; try simp only [Act.put, List.setIfInBounds_toArray, List.set_cons_zero, List.set_cons_succ])
  refine tkH (i := 13) (oi := ⟨some 23, _, _, _, _, _⟩) (v := ?_) rfl ?_ ?_
  rotate_left 1
  · (intro w hSw; (try dsimp only at hSw); go_simp; try (with_reducible rfl))
  try simp only [Act.put, List.setIfInBounds_toArray, List.set_cons_zero, List.set_cons_succ]
  refine tkH (i := 14) (oi := ⟨some 24, _, _, _, _, _⟩) (v := ?_) rfl ?_ ?_
  rotate_left 1
  · (intro w hSw; (try dsimp only at hSw); go_simp; try (with_reducible rfl))
  try simp only [Act.put, List.setIfInBounds_toArray, List.set_cons_zero, List.set_cons_succ]
  refine tkH (i := 15) (oi := ⟨some 2, _, _, _, _, _⟩) (v := ?_) rfl ?_ ?_
  rotate_left 1
  · (intro w hSw; (try dsimp only at hSw); go_simp; try (with_reducible rfl))
  try simp only [Act.put, List.setIfInBounds_toArray, List.set_cons_zero, List.set_cons_succ]
  refine wpAnyH_done (by kernel_rfl) ?_ _
  all_goals
    have hcu := (‹_ ∧ Below (w3.heap.size) w3 _›).2
    go_wp2_with fail
    go_ret
    exact ⟨rfl, HB3.out.trans (hcu.mono (by have := HB3.out.size; omega))⟩
theorem pk_facts {t : T} (h : AllT pkQ t) : allB ownB t = true ∧ allB packB t = true ∧ writeKL t = packK t := by
  have h1 := AllT.allB (p := ownB) (fun t h => decide_eq_true h.1) t h
  have h2 := AllT.allB (p := packB) (fun t h => pkQ_packB h) t h
  exact ⟨h1, h2, by unfold writeKL; rw [h1, h2]; rfl⟩
theorem packK_pos {t : T} (ho : allB ownB t = true) (hp : allB packB t = true) : 0 < (packK t).length := by
  have h := (rdP_both t ho hp (T.depth t)).1 (Nat.le_refl _) []
  rw [List.append_nil] at h
  rcases Nat.eq_zero_or_pos (packK t).length with h0 | h0
  · have hn : packK t = [] := List.length_eq_zero_iff.1 h0
    rw [hn] at h
    have hd : ∃ d, T.depth t = d + 1 := ⟨T.depthL t.l, by cases t; simp [T.depth, T.l]⟩
    obtain ⟨d, hd⟩ := hd
    rw [hd] at h
    cases h
  · exact h0
theorem writeKL_pos (t : T) : decide (0 < (writeKL t).length) = (allB ownB t && allB packB t) := by
  unfold writeKL
  by_cases h : (allB ownB t && allB packB t) = true
  · rw [if_pos h, h]
    rw [Bool.and_eq_true] at h
    exact decide_eq_true (packK_pos h.1 h.2)
  · rw [if_neg h]
    have : (allB ownB t && allB packB t) = false := by simpa using h
    rw [this]; rfl
set_option maxHeartbeats 16000000 in
theorem FnPackeds_walk (x0 : List Int) (a0 : Option Addr) (c0 B0 : Nat) (w : World) (hr0 : Rd EByte 1 w B0 a0 c0 x0) (_ : True) (hB0 : B0 ≤ w.heap.size) (henv : Env w.heap.size w) :
    Calls Tryz.prog 5 #[.slice a0 x0.length c0] w fun e w' => e = .returned (.bool true) ∧ Below w.heap.size w w' := by
  have HENV := Lib.hid henv; clear henv
  have F0 : Hid (Rd EByte 1 w w.heap.size a0 c0 x0) := Lib.hid (hr0.more hB0)
  clear hr0
  obtain ⟨hn0, hm0⟩ := F0.out.len
  go_enter Tryz.func5, Tryz.ntmps5
  go_wp2_with fail
  refine (laws_big a0 c0 x0 w).mono ?_
  rintro e w1 ⟨rfl, hw1⟩
  have hw2 := hw1.symm; subst hw2; clear hw1
  by_cases hbig : 1048576 < x0.length
  · have hbb : decide (1048576 < x0.length) = true := decide_eq_true hbig
    rw [hbb]
    go_wp2_with fail
    go_ret
    exact ⟨rfl, Below.refl _ _⟩
  have hbb : decide (1048576 < x0.length) = false := decide_eq_false hbig
  rw [hbb]
  have hl0 : x0.length ≤ 1048576 := by omega
  clear hbb hbig
  go_wp2_with fail
  refine (spec_DrawPacked a0 c0 w.heap.size x0 w F0.out (Nat.le_refl _) hl0).mono ?_
  rintro e w1 ⟨tv, av, cv, rfl, htv, hzv, ⟨hpk, hpd⟩, hrv, hb⟩
  have HS1 := Lib.hid (hb)
  have s1 : w.heap.size ≤ w1.heap.size := HS1.out.size
  have HB1 := HS1
  clear hb
  have RV1 := Lib.hid hrv; clear hrv
  have HTV := Lib.hid htv; clear htv
  obtain ⟨ho, hp, hwk⟩ := pk_facts hpk
  have HO := Lib.hid ho; have HPB := Lib.hid hp
  have HLP := packK_pos ho hp
  have HLL : (packK tv).length ≤ 600009 := by have := packK_len tv; omega
  have HRO := Lib.hid (rdP_both tv ho hp)
  have HWK := Lib.hid hwk; clear hwk hpk ho hp
  go_wp2_with fail
  obtain ⟨gv, gvE⟩ : ∃ g, w1.heap.size = g := ⟨_, rfl⟩
  generalize hW : w1.alloc (.cells (cV tv av cv) 26) = w2
  have hbx : Below w1.heap.size w1 w2 := by subst hW; exact below1 _ _
  have BV2 : Hid (Is w2 gv 26 (cV tv av cv)) := Lib.hid (by subst hW; rw [← gvE]; exact Is.new _ _ _)
  clear hW
  try rw [gvE]
  have HS2 := Lib.hid (hbx)
  have s2 : w1.heap.size ≤ w2.heap.size := HS2.out.size
  have HB2 := Lib.hid (HB1.out.trans (HS2.out.mono (by omega)))
  have RV2 := Lib.hid (R.fwd RV1.out HS2.out)
  clear HS2 HB1 RV1
  clear hbx
  have gvl : gv < w2.heap.size := BV2.out.lt
  obtain ⟨v0, v1, v2, v3, v4⟩ := BV2.out.cells5; have vl := BV2.out.lt
  go_wp2_with fail
  refine (impl_WritePacked tv av cv w2.heap.size w2 RV2.out HTV.out (by omega) ((HENV.out.step HB2.out).more (by have := HB2.out.size; omega)) (Nat.le_refl _)).mono ?_
  rintro e w3 ⟨ab, cb, rfl, happ, hb⟩
  rw [HWK.out] at happ ⊢
  have hry : Rd EByte 1 w3 w3.heap.size ab cb (packK tv) := happ.rd hb.size
  clear v0 v1 v2 v3 v4 vl
  have HS3 := Lib.hid (hb)
  have s3 : w2.heap.size ≤ w3.heap.size := HS3.out.size
  have HB3 := Lib.hid (HB2.out.trans (HS3.out.mono (by omega)))
  have RV3 := Lib.hid (R.fwd RV2.out HS3.out)
  have BV3 := Lib.hid (Is.below BV2.out HS3.out (by omega))
  clear HS3 HB2 RV2 BV2
  clear hb happ
  have YB3 := Lib.hid hry; clear hry
  go_wp2_with fail
  refine (spec_DrawWritePacked a0 c0 w3.heap.size x0 w3 ((F0.out.below EByte.loc HB3.out (Nat.le_refl _)).more (by have := HB3.out.size; omega)) (Nat.le_refl _) hl0).mono ?_
  rintro e w4 ⟨tw, aw, cw, rfl, htw, hzw, _, hrw, hb⟩
  have HS4 := Lib.hid (hb)
  have s4 : w3.heap.size ≤ w4.heap.size := HS4.out.size
  have HB4 := Lib.hid (HB3.out.trans (HS4.out.mono (by omega)))
  have RV4 := Lib.hid (R.fwd RV3.out HS4.out)
  have BV4 := Lib.hid (Is.below BV3.out HS4.out (by omega))
  have YB4 := Lib.hid (Rd.fwd EByte.loc YB3.out HS4.out)
  clear HS4 HB3 RV3 BV3 YB3
  clear hb
  have RW4 := Lib.hid hrw; clear hrw
  have HTW := Lib.hid htw; clear htw
  go_wp2_with fail
  obtain ⟨gw, gwE⟩ : ∃ g, w4.heap.size = g := ⟨_, rfl⟩
  generalize hW : w4.alloc (.cells (cV tw aw cw) 26) = w5
  have hbx : Below w4.heap.size w4 w5 := by subst hW; exact below1 _ _
  have BW5 : Hid (Is w5 gw 26 (cV tw aw cw)) := Lib.hid (by subst hW; rw [← gwE]; exact Is.new _ _ _)
  clear hW
  try rw [gwE]
  have HS5 := Lib.hid (hbx)
  have s5 : w4.heap.size ≤ w5.heap.size := HS5.out.size
  have HB5 := Lib.hid (HB4.out.trans (HS5.out.mono (by omega)))
  have RV5 := Lib.hid (R.fwd RV4.out HS5.out)
  have BV5 := Lib.hid (Is.below BV4.out HS5.out (by omega))
  have YB5 := Lib.hid (Rd.fwd EByte.loc YB4.out HS5.out)
  have RW5 := Lib.hid (R.fwd RW4.out HS5.out)
  clear HS5 HB4 RV4 BV4 YB4 RW4
  clear hbx
  have gwl : gw < w5.heap.size := BW5.out.lt
  go_wp2_with fail
  refine (spec_DrawFitsPacked a0 c0 w5.heap.size x0 w5 ((F0.out.below EByte.loc HB5.out (Nat.le_refl _)).more (by have := HB5.out.size; omega)) (Nat.le_refl _) hl0).mono ?_
  rintro e w6 ⟨tu, au, cu, rfl, htu, hzu, _, hru, hb⟩
  have HS6 := Lib.hid (hb)
  have s6 : w5.heap.size ≤ w6.heap.size := HS6.out.size
  have HB6 := Lib.hid (HB5.out.trans (HS6.out.mono (by omega)))
  have RV6 := Lib.hid (R.fwd RV5.out HS6.out)
  have BV6 := Lib.hid (Is.below BV5.out HS6.out (by omega))
  have YB6 := Lib.hid (Rd.fwd EByte.loc YB5.out HS6.out)
  have RW6 := Lib.hid (R.fwd RW5.out HS6.out)
  have BW6 := Lib.hid (Is.below BW5.out HS6.out (by omega))
  clear HS6 HB5 RV5 BV5 YB5 RW5 BW5
  clear hb
  have RU6 := Lib.hid hru; clear hru
  have HTU := Lib.hid htu; clear htu
  go_wp2_with fail
  obtain ⟨gu, guE⟩ : ∃ g, w6.heap.size = g := ⟨_, rfl⟩
  generalize hW : w6.alloc (.cells (cV tu au cu) 26) = w7
  have hbx : Below w6.heap.size w6 w7 := by subst hW; exact below1 _ _
  have BU7 : Hid (Is w7 gu 26 (cV tu au cu)) := Lib.hid (by subst hW; rw [← guE]; exact Is.new _ _ _)
  clear hW
  try rw [guE]
  have HS7 := Lib.hid (hbx)
  have s7 : w6.heap.size ≤ w7.heap.size := HS7.out.size
  have HB7 := Lib.hid (HB6.out.trans (HS7.out.mono (by omega)))
  have RV7 := Lib.hid (R.fwd RV6.out HS7.out)
  have BV7 := Lib.hid (Is.below BV6.out HS7.out (by omega))
  have YB7 := Lib.hid (Rd.fwd EByte.loc YB6.out HS7.out)
  have RW7 := Lib.hid (R.fwd RW6.out HS7.out)
  have BW7 := Lib.hid (Is.below BW6.out HS7.out (by omega))
  have RU7 := Lib.hid (R.fwd RU6.out HS7.out)
  clear HS7 HB6 RV6 BV6 YB6 RW6 BW6 RU6
  clear hbx
  have gul : gu < w7.heap.size := BU7.out.lt
  go_wp2_with fail
  refine (spec_DrawPackPacked a0 c0 w7.heap.size x0 w7 ((F0.out.below EByte.loc HB7.out (Nat.le_refl _)).more (by have := HB7.out.size; omega)) (Nat.le_refl _) hl0).mono ?_
  rintro e w8 ⟨tp, ap, cp, rfl, htp, hzp, _, hrp, hb⟩
  have HS8 := Lib.hid (hb)
  have s8 : w7.heap.size ≤ w8.heap.size := HS8.out.size
  have HB8 := Lib.hid (HB7.out.trans (HS8.out.mono (by omega)))
  have RV8 := Lib.hid (R.fwd RV7.out HS8.out)
  have BV8 := Lib.hid (Is.below BV7.out HS8.out (by omega))
  have YB8 := Lib.hid (Rd.fwd EByte.loc YB7.out HS8.out)
  have RW8 := Lib.hid (R.fwd RW7.out HS8.out)
  have BW8 := Lib.hid (Is.below BW7.out HS8.out (by omega))
  have RU8 := Lib.hid (R.fwd RU7.out HS8.out)
  have BU8 := Lib.hid (Is.below BU7.out HS8.out (by omega))
  clear HS8 HB7 RV7 BV7 YB7 RW7 BW7 RU7 BU7
  clear hb
  have RP8 := Lib.hid hrp; clear hrp
  have HTP := Lib.hid htp; clear htp
  obtain ⟨v0, v1, v2, v3, v4⟩ := BV8.out.cells5; have vl := BV8.out.lt
  go_wp2_with fail
  obtain ⟨gp, gpE⟩ : ∃ g, w8.heap.size = g := ⟨_, rfl⟩
  generalize hW : w8.alloc (.cells (cV tp ap cp) 26) = w9
  have hbx : Below w8.heap.size w8 w9 := by subst hW; exact below1 _ _
  have BP9 : Hid (Is w9 gp 26 (cV tp ap cp)) := Lib.hid (by subst hW; rw [← gpE]; exact Is.new _ _ _)
  clear hW
  try rw [gpE]
  have HS9 := Lib.hid (hbx)
  have s9 : w8.heap.size ≤ w9.heap.size := HS9.out.size
  have HB9 := Lib.hid (HB8.out.trans (HS9.out.mono (by omega)))
  have RV9 := Lib.hid (R.fwd RV8.out HS9.out)
  have BV9 := Lib.hid (Is.below BV8.out HS9.out (by omega))
  have YB9 := Lib.hid (Rd.fwd EByte.loc YB8.out HS9.out)
  have RW9 := Lib.hid (R.fwd RW8.out HS9.out)
  have BW9 := Lib.hid (Is.below BW8.out HS9.out (by omega))
  have RU9 := Lib.hid (R.fwd RU8.out HS9.out)
  have BU9 := Lib.hid (Is.below BU8.out HS9.out (by omega))
  have RP9 := Lib.hid (R.fwd RP8.out HS9.out)
  clear HS9 HB8 RV8 BV8 YB8 RW8 BW8 RU8 BU8 RP8
  clear hbx
  have gpl : gp < w9.heap.size := BP9.out.lt
  clear v0 v1 v2 v3 v4 vl
  have hdp : T.depth tv ≤ 4 := hpd
  obtain ⟨D, hD⟩ : ∃ D, T.depth tv = D + 1 := ⟨T.depthL tv.l, by cases tv; simp [T.depth, T.l]⟩
  have HD := Lib.hid hD
  have hD3 : D ≤ 3 := by omega
  have HR1 := Lib.hid (show rdP (((D + 1 : Nat) : Int)).toNat (packK tv) = .ok (tv, (packK tv).length) from by rw [Int.toNat_natCast]; have := (HRO.out (D + 1)).1 (by rw [HD.out]; exact Nat.le_refl _) []; rwa [List.append_nil] at this)
  have HR2 := Lib.hid (show rdP ((D : Int)).toNat (packK tv) = .error 2 from by rw [Int.toNat_natCast]; have := (HRO.out D).2 (by rw [HD.out]; omega) []; rwa [List.append_nil] at this)
  have HR20 := Lib.hid (show rdP 20 (packK tv) = .ok (tv, (packK tv).length) from by have := (HRO.out 20).1 (by omega) []; rwa [List.append_nil] at this)
  clear hpd hdp hD
  have hct : T.count tv ≤ 4611686018427387904 := by have := T.countL_le_szL tv; omega
  obtain ⟨L, hL⟩ : ∃ L, packK tv = L := ⟨_, rfl⟩
  rw [hL] at HLP HLL HR1 HR2 HR20 HWK YB9 ⊢
  have HPK := Lib.hid hL; clear hL
  refine (impl_DeepOf tv hct av cv w9.heap.size w9 RV9.out (Nat.le_refl _)).mono ?_
  rintro e w10 ⟨rfl, hb⟩
  rw [HD.out]
  have HS10 := Lib.hid (hb)
  have s10 : w9.heap.size ≤ w10.heap.size := HS10.out.size
  have HB10 := Lib.hid (HB9.out.trans (HS10.out.mono (by omega)))
  have RV10 := Lib.hid (R.fwd RV9.out HS10.out)
  have BV10 := Lib.hid (Is.below BV9.out HS10.out (by omega))
  have YB10 := Lib.hid (Rd.fwd EByte.loc YB9.out HS10.out)
  have RW10 := Lib.hid (R.fwd RW9.out HS10.out)
  have BW10 := Lib.hid (Is.below BW9.out HS10.out (by omega))
  have RU10 := Lib.hid (R.fwd RU9.out HS10.out)
  have BU10 := Lib.hid (Is.below BU9.out HS10.out (by omega))
  have RP10 := Lib.hid (R.fwd RP9.out HS10.out)
  have BP10 := Lib.hid (Is.below BP9.out HS10.out (by omega))
  clear HS10 HB9 RV9 BV9 YB9 RW9 BW9 RU9 BU9 RP9 BP9
  clear hb
  go_wp2_with fail
  refine (impl_ReadPacked_ok L tv ab cb w10.heap.size _ w10 YB10.out (Nat.le_refl _) (by omega) ⟨by omega, by omega⟩ ((HENV.out.step HB10.out).more (by have := HB10.out.size; omega)) HR1.out).mono ?_
  rintro e w11 ⟨ax, cx, rfl, hrx, _, hb⟩
  have hrx2 := hrx.r
  have HS11 := Lib.hid (hb)
  have s11 : w10.heap.size ≤ w11.heap.size := HS11.out.size
  have HB11 := Lib.hid (HB10.out.trans (HS11.out.mono (by omega)))
  have RV11 := Lib.hid (R.fwd RV10.out HS11.out)
  have BV11 := Lib.hid (Is.below BV10.out HS11.out (by omega))
  have YB11 := Lib.hid (Rd.fwd EByte.loc YB10.out HS11.out)
  have RW11 := Lib.hid (R.fwd RW10.out HS11.out)
  have BW11 := Lib.hid (Is.below BW10.out HS11.out (by omega))
  have RU11 := Lib.hid (R.fwd RU10.out HS11.out)
  have BU11 := Lib.hid (Is.below BU10.out HS11.out (by omega))
  have RP11 := Lib.hid (R.fwd RP10.out HS11.out)
  have BP11 := Lib.hid (Is.below BP10.out HS11.out (by omega))
  clear HS11 HB10 RV10 BV10 YB10 RW10 BW10 RU10 BU10 RP10 BP10
  clear hb hrx
  have RX11 := Lib.hid hrx2; clear hrx2
  obtain ⟨v0, v1, v2, v3, v4⟩ := BV11.out.cells5; have vl := BV11.out.lt
  go_wp2_with fail
  obtain ⟨gx, gxE⟩ : ∃ g, w11.heap.size = g := ⟨_, rfl⟩
  generalize hW : w11.alloc (.cells (cV tv ax cx) 26) = w12
  have hbx : Below w11.heap.size w11 w12 := by subst hW; exact below1 _ _
  have BX12 : Hid (Is w12 gx 26 (cV tv ax cx)) := Lib.hid (by subst hW; rw [← gxE]; exact Is.new _ _ _)
  clear hW
  try rw [gxE]
  have HS12 := Lib.hid (hbx)
  have s12 : w11.heap.size ≤ w12.heap.size := HS12.out.size
  have HB12 := Lib.hid (HB11.out.trans (HS12.out.mono (by omega)))
  have RV12 := Lib.hid (R.fwd RV11.out HS12.out)
  have BV12 := Lib.hid (Is.below BV11.out HS12.out (by omega))
  have YB12 := Lib.hid (Rd.fwd EByte.loc YB11.out HS12.out)
  have RW12 := Lib.hid (R.fwd RW11.out HS12.out)
  have BW12 := Lib.hid (Is.below BW11.out HS12.out (by omega))
  have RU12 := Lib.hid (R.fwd RU11.out HS12.out)
  have BU12 := Lib.hid (Is.below BU11.out HS12.out (by omega))
  have RP12 := Lib.hid (R.fwd RP11.out HS12.out)
  have BP12 := Lib.hid (Is.below BP11.out HS12.out (by omega))
  have RX12 := Lib.hid (R.fwd RX11.out HS12.out)
  clear HS12 HB11 RV11 BV11 YB11 RW11 BW11 RU11 BU11 RP11 BP11 RX11
  clear hbx
  have gxl : gx < w12.heap.size := BX12.out.lt
  clear v0 v1 v2 v3 v4 vl
  refine (impl_DeepOf tv hct av cv w12.heap.size w12 RV12.out (Nat.le_refl _)).mono ?_
  rintro e w13 ⟨rfl, hb⟩
  rw [HD.out]
  have HS13 := Lib.hid (hb)
  have s13 : w12.heap.size ≤ w13.heap.size := HS13.out.size
  have HB13 := Lib.hid (HB12.out.trans (HS13.out.mono (by omega)))
  have RV13 := Lib.hid (R.fwd RV12.out HS13.out)
  have BV13 := Lib.hid (Is.below BV12.out HS13.out (by omega))
  have YB13 := Lib.hid (Rd.fwd EByte.loc YB12.out HS13.out)
  have RW13 := Lib.hid (R.fwd RW12.out HS13.out)
  have BW13 := Lib.hid (Is.below BW12.out HS13.out (by omega))
  have RU13 := Lib.hid (R.fwd RU12.out HS13.out)
  have BU13 := Lib.hid (Is.below BU12.out HS13.out (by omega))
  have RP13 := Lib.hid (R.fwd RP12.out HS13.out)
  have BP13 := Lib.hid (Is.below BP12.out HS13.out (by omega))
  have RX13 := Lib.hid (R.fwd RX12.out HS13.out)
  have BX13 := Lib.hid (Is.below BX12.out HS13.out (by omega))
  clear HS13 HB12 RV12 BV12 YB12 RW12 BW12 RU12 BU12 RP12 BP12 RX12 BX12
  clear hb
  have hd1 : (((D + 1 : Nat) : Int)) - 1 = (D : Int) := by omega
  go_wp2_with fail
  (try rw [hd1])
  refine (impl_ReadPacked_err L 2 ab cb w13.heap.size _ w13 YB13.out (Nat.le_refl _) (by omega) ⟨by omega, by omega⟩ ((HENV.out.step HB13.out).more (by have := HB13.out.size; omega)) HR2.out).mono ?_
  rintro e w14 ⟨rfl, hb⟩
  have HS14 := Lib.hid (hb)
  have s14 : w13.heap.size ≤ w14.heap.size := HS14.out.size
  have HB14 := Lib.hid (HB13.out.trans (HS14.out.mono (by omega)))
  have RV14 := Lib.hid (R.fwd RV13.out HS14.out)
  have BV14 := Lib.hid (Is.below BV13.out HS14.out (by omega))
  have YB14 := Lib.hid (Rd.fwd EByte.loc YB13.out HS14.out)
  have RW14 := Lib.hid (R.fwd RW13.out HS14.out)
  have BW14 := Lib.hid (Is.below BW13.out HS14.out (by omega))
  have RU14 := Lib.hid (R.fwd RU13.out HS14.out)
  have BU14 := Lib.hid (Is.below BU13.out HS14.out (by omega))
  have RP14 := Lib.hid (R.fwd RP13.out HS14.out)
  have BP14 := Lib.hid (Is.below BP13.out HS14.out (by omega))
  have RX14 := Lib.hid (R.fwd RX13.out HS14.out)
  have BX14 := Lib.hid (Is.below BX13.out HS14.out (by omega))
  clear HS14 HB13 RV13 BV13 YB13 RW13 BW13 RU13 BU13 RP13 BP13 RX13 BX13
  clear hb
  go_wp2_with fail
  obtain ⟨gz, gzE⟩ : ∃ g, w14.heap.size = g := ⟨_, rfl⟩
  generalize hW : w14.alloc (.cells (zV) 26) = w15
  have hbx : Below w14.heap.size w14 w15 := by subst hW; exact below1 _ _
  have BZ15 : Hid (Is w15 gz 26 (zV)) := Lib.hid (by subst hW; rw [← gzE]; exact Is.new _ _ _)
  clear hW
  try rw [gzE]
  have HS15 := Lib.hid (hbx)
  have s15 : w14.heap.size ≤ w15.heap.size := HS15.out.size
  have HB15 := Lib.hid (HB14.out.trans (HS15.out.mono (by omega)))
  have RV15 := Lib.hid (R.fwd RV14.out HS15.out)
  have BV15 := Lib.hid (Is.below BV14.out HS15.out (by omega))
  have YB15 := Lib.hid (Rd.fwd EByte.loc YB14.out HS15.out)
  have RW15 := Lib.hid (R.fwd RW14.out HS15.out)
  have BW15 := Lib.hid (Is.below BW14.out HS15.out (by omega))
  have RU15 := Lib.hid (R.fwd RU14.out HS15.out)
  have BU15 := Lib.hid (Is.below BU14.out HS15.out (by omega))
  have RP15 := Lib.hid (R.fwd RP14.out HS15.out)
  have BP15 := Lib.hid (Is.below BP14.out HS15.out (by omega))
  have RX15 := Lib.hid (R.fwd RX14.out HS15.out)
  have BX15 := Lib.hid (Is.below BX14.out HS15.out (by omega))
  clear HS15 HB14 RV14 BV14 YB14 RW14 BW14 RU14 BU14 RP14 BP14 RX14 BX14
  clear hbx
  have gzl : gz < w15.heap.size := BZ15.out.lt
  obtain ⟨LW, hLW⟩ : ∃ b, writeKL tw = b := ⟨_, rfl⟩
  obtain ⟨LP, hLP⟩ : ∃ b, packK tp = b := ⟨_, rfl⟩
  obtain ⟨bU, hbU⟩ : ∃ b, (allB ownB tu && allB packB tu) = b := ⟨_, rfl⟩
  obtain ⟨bW, hbW⟩ : ∃ b, (allB ownB tw && allB packB tw) = b := ⟨_, rfl⟩
  have hpos := writeKL_pos tw
  rw [hbW, hLW] at hpos
  have HLW := Lib.hid hLW; have HLPP := Lib.hid hLP; have HBU := Lib.hid hbU; have HBW := Lib.hid hbW
  clear hLW hLP hbU hbW
  have hself : ∀ b : Bool, (b != b) = false := fun b => by cases b <;> rfl
  have q1 := hself bU
  clear hself
  have HEN := Lib.hid ((HENV.out.step HB15.out).more (show w.heap.size ≤ w15.heap.size from by have := HB15.out.size; omega))
  obtain ⟨v0, v1, v2, v3, v4⟩ := BV15.out.cells5; have vl := BV15.out.lt
  obtain ⟨k0, k1, k2, k3, k4⟩ := BW15.out.cells5; have kl := BW15.out.lt
  obtain ⟨u0, u1, u2, u3, u4⟩ := BU15.out.cells5; have ul := BU15.out.lt
  obtain ⟨p0, p1, p2, p3, p4⟩ := BP15.out.cells5; have pl := BP15.out.lt
  cases bW
  case' false => have hz : ¬ (0 : Int) < (LW.length : Int) := by (have := of_decide_eq_false hpos; omega)
  case' true => have hz : (0 : Int) < (LW.length : Int) := (by have := of_decide_eq_true hpos; omega); have hz2 : 0 < LW.length := (by omega); have hz4 : decide (0 < LW.length) = true := decide_eq_true hz2
  all_goals
    clear hpos
    go_upto_region 10 with (fail)
    go_region_held3 (fun w' => (∀ b o, b < w15.heap.size → w'.cell? ⟨b, o, none⟩ = w15.cell? ⟨b, o, none⟩) ∧ Below (w15.heap.size) w15 w') (first | exact ⟨fun _ _ _ => rfl, (Below.refl _ _).drew⟩ | assumption | exact keep_step (by assumption) (Below.drew (Below.refl _ _)) (Nat.le_refl _) | exact keep_step (by assumption) (by assumption) (by first | omega | (simp only [World.size_drew]; omega) | (simp only [size_alloc]; omega) | (simp only [World.size_drew, size_alloc]; omega) | (have := (‹(_ ∧ Below (w15.heap.size) w15 _)›).2.size; first | omega | (simp only [World.size_drew]; omega) | (simp only [size_alloc]; omega) | (simp only [World.size_drew, size_alloc]; omega) | (simp only [World.size_drew] at this; omega) | (simp only [size_alloc] at this; omega) | (simp only [World.size_drew, size_alloc] at this; omega))) | exact keep_step (by assumption) (below1 _ _) (by first | omega | (simp only [World.size_drew]; omega) | (simp only [size_alloc]; omega) | (simp only [World.size_drew, size_alloc]; omega) | (have := (‹(_ ∧ Below (w15.heap.size) w15 _)›).2.size; first | omega | (simp only [World.size_drew]; omega) | (simp only [size_alloc]; omega) | (simp only [World.size_drew, size_alloc]; omega) | (simp only [World.size_drew] at this; omega) | (simp only [size_alloc] at this; omega) | (simp only [World.size_drew, size_alloc] at this; omega)))) (first | (go_at_call 38; refine (impl_FitsPacked tw aw cw w15.heap.size _ (R.below RW15.out (‹_ ∧ Below (w15.heap.size) w15 _›).2 (Nat.le_refl _)) HTW.out (by omega) (HEN.out.step (‹_ ∧ Below (w15.heap.size) w15 _›).2) (‹_ ∧ Below (w15.heap.size) w15 _›).2.size).mono ?_; rintro e v10 ⟨rfl, hb⟩; rw [HBW.out]) | (go_at_call 15; have hguard := HS78; clear hguard; refine (laws_same LP a7 a8 c7 c8 v8.heap.size v8 HS78.out HS8.out (Nat.le_refl _)).mono ?_; rintro e v9 ⟨rfl, hb⟩; skip) | (go_at_call 41; refine (spec_PackPacked tp ap cp w15.heap.size _ (R.below RP15.out (‹_ ∧ Below (w15.heap.size) w15 _›).2 (Nat.le_refl _)) HTP.out (by omega) (‹_ ∧ Below (w15.heap.size) w15 _›).2.size).mono ?_; rintro e v8 ⟨a8, c8, rfl, hs, hb⟩; rw [HLPP.out] at hs ⊢; have HS8 := Lib.hid (hs.rd hb.size); have HS78 := Lib.hid (Rd.fwd EByte.loc HS7.out hb); clear hs) | (go_at_call 40; refine (impl_PackPacked tp ap cp w15.heap.size _ (R.below RP15.out (‹_ ∧ Below (w15.heap.size) w15 _›).2 (Nat.le_refl _)) HTP.out (by omega) (‹_ ∧ Below (w15.heap.size) w15 _›).2.size).mono ?_; rintro e v7 ⟨a7, c7, rfl, hs, hb⟩; rw [HLPP.out] at hs ⊢; have HS7 := Lib.hid (hs.rd hb.size); clear hs) | (go_at_call 39; refine (spec_FitsPacked tu au cu w15.heap.size _ (R.below RU15.out (‹_ ∧ Below (w15.heap.size) w15 _›).2 (Nat.le_refl _)) HTU.out (by omega) (‹_ ∧ Below (w15.heap.size) w15 _›).2.size).mono ?_; rintro e v6 ⟨rfl, hb⟩; rw [HBU.out]) | (go_at_call 38; refine (impl_FitsPacked tu au cu w15.heap.size _ (R.below RU15.out (‹_ ∧ Below (w15.heap.size) w15 _›).2 (Nat.le_refl _)) HTU.out (by omega) (HEN.out.step (‹_ ∧ Below (w15.heap.size) w15 _›).2) (‹_ ∧ Below (w15.heap.size) w15 _›).2.size).mono ?_; rintro e v6 ⟨rfl, hb⟩; rw [HBU.out]) | (go_at_call 15; have hguard := HSX; clear hguard; refine (laws_same LW a3 a4 c3 c4 v4.heap.size v4 HSW4.out HSX.out (Nat.le_refl _)).mono ?_; rintro e v5 ⟨rfl, hb⟩; skip) | (go_at_call 37; have hguard := HSW; clear hguard; refine (spec_WritePacked tw aw cw w15.heap.size _ (R.below RW15.out (‹_ ∧ Below (w15.heap.size) w15 _›).2 (Nat.le_refl _)) HTW.out (by omega) (‹_ ∧ Below (w15.heap.size) w15 _›).2.size).mono ?_; rintro e v4 ⟨a4, c4, rfl, hs, hb⟩; rw [HLW.out] at hs ⊢; have HSX := Lib.hid (hs.rd hb.size); have HSW4 := Lib.hid (Rd.fwd EByte.loc HSW.out hb); clear hs) | (go_at_call 32; refine (impl_WritePacked tw aw cw w15.heap.size _ (R.below RW15.out (‹_ ∧ Below (w15.heap.size) w15 _›).2 (Nat.le_refl _)) HTW.out (by omega) (HEN.out.step (‹_ ∧ Below (w15.heap.size) w15 _›).2) (‹_ ∧ Below (w15.heap.size) w15 _›).2.size).mono ?_; rintro e v3 ⟨a3, c3, rfl, hs, hb⟩; rw [HLW.out] at hs ⊢; have HSW := Lib.hid (hs.rd hb.size); have hsv3 := hb.size; clear hs) | (go_at_call 15; refine (laws_same L ab aS cb cS v1.heap.size v1 ((YB15.out.below EByte.loc (‹_ ∧ Below (w15.heap.size) w15 _›).2 (Nat.le_refl _)).more (‹_ ∧ Below (w15.heap.size) w15 _›).2.size) HSP.out (Nat.le_refl _)).mono ?_; rintro e v2 ⟨rfl, hb⟩; skip) | (go_at_call 37; refine (spec_WritePacked tv av cv w15.heap.size _ (R.below RV15.out (‹_ ∧ Below (w15.heap.size) w15 _›).2 (Nat.le_refl _)) HTV.out (by omega) (‹_ ∧ Below (w15.heap.size) w15 _›).2.size).mono ?_; rintro e v1 ⟨aS, cS, rfl, hs, hb⟩; rw [HWK.out] at hs ⊢; have HSP := Lib.hid (hs.rd hb.size); have hsv1 := hb.size; clear hs))
    all_goals
      have hcu := (‹_ ∧ Below (w15.heap.size) w15 _›).2
      have HCU := Lib.hid hcu
      have sE := hcu.size
      have RVz := Lib.hid (R.fwd RV15.out hcu); have RXz := Lib.hid (R.fwd RX15.out hcu)
      have YBz := Lib.hid (Rd.fwd EByte.loc YB15.out hcu)
      have HEz := Lib.hid ((HEN.out.step hcu).more sE)
      have hbv := BV15.out.below hcu (by omega); have hbx := BX15.out.below hcu (by omega)
      have HBz := Lib.hid (HB15.out.trans (hcu.mono (by omega)))
      clear hcu HSP HSX HSW4 HS7 HS8 HS78
      have BVz := Lib.hid hbv; have BXz := Lib.hid hbx; clear hbv hbx
      obtain ⟨ya0, ya1, ya2, ya3, ya4⟩ := BVz.out.cells5; have yal := BVz.out.lt
      obtain ⟨yb0, yb1, yb2, yb3, yb4⟩ := BXz.out.cells5; have ybl := BXz.out.lt

      go_wp2_with fail
      all_goals try (exfalso; rename_i hne; simp [hz2] at hne; done)

      refine (impl_FitsPacked tv av cv _ _ RVz.out HTV.out (by omega) HEz.out (Nat.le_refl _)).mono ?_
      rintro e z1 ⟨rfl, hb1⟩
      rw [HO.out, HPB.out]
      have sz1 := hb1.size
      have RV2 := Lib.hid (R.fwd RVz.out hb1); have RX2 := Lib.hid (R.fwd RXz.out hb1)
      have YB2 := Lib.hid (Rd.fwd EByte.loc YBz.out hb1)
      have HE2 := Lib.hid ((HEz.out.step hb1).more sz1)
      have HB2 := Lib.hid (HBz.out.trans (hb1.mono (by omega)))
      have BV2 := Lib.hid (BVz.out.below hb1 (by omega)); have BX2 := Lib.hid (BXz.out.below hb1 (by omega))
      clear ya0 ya1 ya2 ya3 ya4 yb0 yb1 yb2 yb3 yb4 hb1
      obtain ⟨ya0, ya1, ya2, ya3, ya4⟩ := BV2.out.cells5; have yal2 := BV2.out.lt
      obtain ⟨yb0, yb1, yb2, yb3, yb4⟩ := BX2.out.cells5; have ybl2 := BX2.out.lt
      go_wp2_with fail

      refine (laws_sameVal tv tv ax av cx cv _ _ RX2.out RV2.out (Nat.le_refl _)).mono ?_
      rintro e z2 ⟨rfl, hb2⟩
      rw [sameT_true rfl]
      have sz2 := hb2.size
      have YB3 := Lib.hid (Rd.fwd EByte.loc YB2.out hb2)
      have HE3 := Lib.hid ((HE2.out.step hb2).more sz2)
      have HB3 := Lib.hid (HB2.out.trans (hb2.mono (by omega)))
      clear ya0 ya1 ya2 ya3 ya4 yb0 yb1 yb2 yb3 yb4 hb2
      go_wp2_with fail

      refine (impl_PackedOk_yes L tv ab cb _ _ YB3.out (Nat.le_refl _) (by omega) HLP HE3.out HR20.out HWK.out (by omega)).mono ?_
      rintro e z3 ⟨rfl, hb3⟩
      go_wp2_with fail

      go_ret
      refine ⟨rfl, ?_⟩
      exact HB3.out.trans (hb3.mono (by have := HB3.out.size; omega))
end Go.Proofs.YtohfljaaaojjmaaGreatDoor
