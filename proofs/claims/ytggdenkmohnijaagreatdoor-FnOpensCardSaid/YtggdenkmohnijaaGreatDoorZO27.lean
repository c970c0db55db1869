/- Texts of this proof, merged: TigI. No condition beyond what each theorem states. -/
import Derived.Test.YtggdenkmohnijaaGreatDoorZO26
set_option linter.unusedSimpArgs false
set_option linter.unnecessarySimpa false
namespace Go.Proofs.YtggdenkmohnijaaGreatDoor
open Go.ChangeShapes Go.WideShapes Go.ChangeAt Go.RowKit Go.Joins
set_option linter.unusedVariables false
set_option maxRecDepth 100000
def Tr (w : World) (A : Nat) (a : Option Addr) (cap : Nat) (bs : List Int) (p c : Int) : Prop := Is w A 74 #[.slice a bs.length cap, .int .i64 p, .int .i64 c] ∧ Rd EByte 1 w A a cap bs
theorem Tr.below {w w' : World} {A n : Nat} {a : Option Addr} {cap : Nat} {bs : List Int} {p c : Int} (h : Tr w A a cap bs p c) (hb : Below n w w') (hn : A < n) : Tr w' A a cap bs p c := ⟨h.1.below hb hn, h.2.below EByte.loc hb (Nat.le_of_lt hn)⟩
theorem Tr.lt {w : World} {A : Nat} {a : Option Addr} {cap : Nat} {bs : List Int} {p c : Int} (h : Tr w A a cap bs p c) : A < w.heap.size := h.1.lt
theorem Tr.at {w : World} {A : Nat} {a : Option Addr} {cap : Nat} {bs : List Int} {p c : Int} (h : Tr w A a cap bs p c) (q : Int) : Tr (w.setCell ⟨A, 1, none⟩ (.int .i64 q)) A a cap bs q c :=
 ⟨h.1.set 1 _, h.2.below EByte.loc ((Below.refl A w).setCell (p := ⟨A, 1, none⟩) (Nat.le_refl _) _) (Nat.le_refl _)⟩
theorem Tr.code {w : World} {A : Nat} {a : Option Addr} {cap : Nat} {bs : List Int} {p c : Int} (h : Tr w A a cap bs p c) (q : Int) : Tr (w.setCell ⟨A, 2, none⟩ (.int .i64 q)) A a cap bs p q :=
 ⟨h.1.set 2 _, h.2.below EByte.loc ((Below.refl A w).setCell (p := ⟨A, 2, none⟩) (Nat.le_refl _) _) (Nat.le_refl _)⟩
theorem Tr.miss {w : World} {A : Nat} {a : Option Addr} {cap : Nat} {bs : List Int} {p c : Int} (h : Tr w A a cap bs p c) (g i : Nat) (hg : A < g) (v : Value) : Tr (w.setCell ⟨g, i, none⟩ v) A a cap bs p c :=
 h.below ((Below.refl g w).setCell (p := ⟨g, i, none⟩) (Nat.le_refl _) _) hg
set_option maxHeartbeats 4000000 in
theorem impl_tfail (A : Nat) (a : Option Addr) (cap : Nat) (bs : List Int) (p c : Int) (w : World) (hp : Tr w A a cap bs p 0) :
  Calls Tryz.prog 152 #[.pointer (some ⟨A, 0, none⟩), .int .i64 c] w fun e w' => e = .returned (.agg zV) ∧ Tr w' A a cap bs p c ∧ Kp A w w' := by
 have hlA := hp.lt
 have HP := Lib.hid (hp.below (below1 w (.cells zV 26)) hlA)
 have HI := Lib.hid (Is.new w zV 26)
 have HK := Lib.hid (Kp.alloc (w := w) (Nat.le_of_lt hlA) (.cells zV 26))
 have hA1 : A < (w.alloc (.cells zV 26)).heap.size := by simp; omega
 have HP0 := Lib.hid hp
 clear hp
 have ff := fun i => HP.out.1.frozen i
 obtain ⟨z0, z1, z2⟩ := HP.out.1.cells3
 go_enter Tryz.func152, Tryz.ntmps152
 go_wp2_with fail
 have hi := (Is.new (w.setCell ⟨A, 2, none⟩ (.int .i64 c)) zV 26)
 rw [size_set] at hi
 obtain ⟨e0, e1, e2, e3, e4⟩ := hi.cells5
 have h1 := HP0.out.code c
 refine bodyPost_ret (v := .agg zV) (by simp [results, Tryz.results152, go_sem, e0, e1, e2, e3, e4]) rfl ⟨rfl, h1.below (below1 _ _) h1.lt, (Kp.cell 2 _).trans (Kp.alloc (Nat.le_of_lt h1.lt) _)⟩
set_option maxHeartbeats 8000000 in
theorem impl_thead (A : Nat) (a : Option Addr) (cap : Nat) (bs : List Int) (p : Nat) (w : World) (hp : Tr w A a cap bs p 0) (hpl : p ≤ bs.length) (hlen : bs.length ≤ 1073741824) :
  Calls Tryz.prog 153 #[.pointer (some ⟨A, 0, none⟩)] w fun e w' =>
   (∃ m n wd u, rdH (bs.drop p) = .ok ((m, n, wd), u) ∧ e = .returned (.agg (cH m n wd)) ∧ Tr w' A a cap bs ((p + u : Nat) : Int) 0 ∧ Kp A w w') ∨
   (∃ c, rdH (bs.drop p) = .error c ∧ e = .returned (.agg (cH 0 0 0)) ∧ Tr w' A a cap bs p c ∧ Kp A w w') := by
 have hlA := hp.lt
 have HP := Lib.hid (hp.below (below1 w (.cells (cH 0 0 0) 56)) hlA)
 have HI := Lib.hid (Is.new w (cH 0 0 0) 56)
 have HK := Lib.hid (Kp.alloc (w := w) (Nat.le_of_lt hlA) (.cells (cH 0 0 0) 56))
 have HGM := Lib.hid (getH_rdH bs p hpl)
 obtain ⟨hlc, hcap⟩ := hp.2.len
 clear hp
 go_enter Tryz.func153, Tryz.ntmps153
 go_upto_region 1 with (fail)
 have hs1 : (w.alloc (.cells (cH 0 0 0) 56)).heap.size = w.heap.size + 1 := by simp
 obtain ⟨R, hR⟩ : ∃ R, w.heap.size = R := ⟨_, rfl⟩
 generalize hW1 : w.alloc (.cells (cH 0 0 0) 56) = w1 at *
 have hRA : A < R := by omega
 have hA1 : A < w1.heap.size := HP.out.lt
 have hR1 : R < w1.heap.size := by omega
 clear hs1
 rw [hR]
 obtain ⟨z0, z1, z2⟩ := HP.out.1.cells3
 obtain ⟨G, hG⟩ : ∃ G, getH bs (p : Int) = G := ⟨_, rfl⟩
 rw [hG] at HGM
 have HG := Lib.hid hG; clear hG hW1
 go_cut [3, 4, 5] (fun mv ev cv wx => ∃ M, mv = .pointer (some ⟨M, 0, none⟩) ∧ ev = .int .i64 G.2.1 ∧ cv = .int .i64 G.2.2 ∧ w1.heap.size ≤ M ∧ Hid (Is wx M 56 (cH G.1.1 G.1.2.1 G.1.2.2)) ∧ Hid (Below w1.heap.size w1 wx))
 case first =>
  refine tkW (w1.heap.size) w1 (fun hHeld => ?_)
  refine tkS 0 7 rfl ?_
  refine tkS 1 8 rfl ?_
  refine tkS 2 9 rfl ?_
  refine tkS 3 10 rfl ?_
  refine tkS 4 11 rfl ?_
  refine tkS 5 12 rfl ?_
  refine tkS 6 13 rfl ?_
  refine tkS 7 14 rfl ?_
  refine tkR [8, 13] ?_
  refine tkC 15 rfl (fun K hK => ?_) ?_
  focus (go_simp; (first | (go_at_call 102; refine (impl_GetHead bs a cap A (p : Int) _ (HP.out.2.below EByte.loc (‹_ ∧ Below (w1.heap.size) w1 _›).2 (Nat.le_of_lt hA1)) (by have := (‹_ ∧ Below (w1.heap.size) w1 _›).2.size; omega) ⟨by omega, by omega⟩ (by omega)).mono ?_; rintro e w2 ⟨rfl, hb2⟩; have hq0 := (‹_ ∧ Below (w1.heap.size) w1 _›).2.size; have hq1 := hb2.size; (try simp only [World.size_drew, size_alloc] at hq0 hq1); (try (have hm2 : Is w2 w1.heap.size 56 (cH 0 0 0) := (Is.new w1.drew (cH 0 0 0) 56).below hb2 (by simp); have fm := (fun i => hm2.frozen i); have lm := hm2.lt; obtain ⟨m0, m1, m2⟩ := hm2.cells3)); rw [HG.out])); go_wp2_with fail; refine tkK hK (fun hHeld => ?_); clear hK K)
  refine tkS 9 6 rfl ?_
  refine tkS 10 16 rfl ?_
  refine tkS 11 17 rfl ?_
  refine tkS 12 18 rfl ?_
  refine tkA 13 3 rfl (fun K hK => ?_)
  focus (go_simp; go_wp2_with fail; refine tkK hK (fun hHeld => ?_) (hS := (kpA (by assumption))); clear hK K)
  refine tkB 14 rfl (fun K hK => ?_)
  focus (go_simp; go_wp2_with fail; refine tkK hK (fun hHeld => ?_) (hS := (by first | exact kpA (by assumption) | (clear hHeld; exact kpA (by assumption)))); clear hK K)
  refine tkS 15 4 rfl ?_
  refine tkS 16 5 rfl ?_
  refine tkE ?_
  rotate_left 1
  refine tkC 3 rfl (fun K hK => ?_) AllReadyH.nil
  focus (go_simp; go_wp2_with fail; refine tkK hK (fun hHeld => ?_) (hS := (kpA (by assumption))); clear hK K)
  refine tkA 8 15 rfl (fun K hK => ?_)
  focus (go_simp; (first | (go_at_call 102; refine (impl_GetHead bs a cap A (p : Int) _ (HP.out.2.below EByte.loc (‹_ ∧ Below (w1.heap.size) w1 _›).2 (Nat.le_of_lt hA1)) (by have := (‹_ ∧ Below (w1.heap.size) w1 _›).2.size; omega) ⟨by omega, by omega⟩ (by omega)).mono ?_; rintro e w2 ⟨rfl, hb2⟩; have hq0 := (‹_ ∧ Below (w1.heap.size) w1 _›).2.size; have hq1 := hb2.size; (try simp only [World.size_drew, size_alloc] at hq0 hq1); (try (have hm2 : Is w2 w1.heap.size 56 (cH 0 0 0) := (Is.new w1.drew (cH 0 0 0) 56).below hb2 (by simp); have fm := (fun i => hm2.frozen i); have lm := hm2.lt; obtain ⟨m0, m1, m2⟩ := hm2.cells3)); rw [HG.out])); go_wp2_with fail; refine tkK hK (fun hHeld => ?_); clear hK K)
  refine tkS 9 6 rfl ?_
  refine tkS 10 16 rfl ?_
  refine tkS 11 17 rfl ?_
  refine tkS 12 18 rfl ?_
  refine tkB 14 rfl (fun K hK => ?_)
  focus (go_simp; go_wp2_with fail; refine tkK hK (fun hHeld => ?_) (hS := (by exact keep_step (by assumption) (below3s _ _ _ _ _) (by omega))); clear hK K)
  refine tkS 15 4 rfl ?_
  refine tkS 16 5 rfl ?_
  refine tkE ?_
  all_goals
   have hcu := (‹_ ∧ Below (w1.heap.size) w1 _›).2
   go_wp2_with fail
   go_meet
   case rel => first | exact ⟨w1.heap.size, rfl, rfl, rfl, Nat.le_refl _, Lib.hid (((hm2.set 0 _).set 1 _).set 2 _), Lib.hid hcu⟩ | exact ⟨w2.heap.size, rfl, rfl, rfl, by omega, Lib.hid (Is.new w2 _ _), Lib.hid hcu⟩
 case rest =>
  clear z0 z1 z2
  obtain ⟨M, rfl, rfl, rfl, hM1, HM, HBX⟩ := hcut
  rename World => wx
  have HPX := Lib.hid (HP.out.below HBX.out hA1)
  have HIX := Lib.hid (show Is wx R 56 (cH 0 0 0) from hR ▸ (HI.out.below HBX.out (by omega)))
  have HKX := Lib.hid (HK.out.grow (HBX.out.mono (by have := HK.out.size; omega)) (by omega))
  have hMA : A < M := by omega
  have hMR : R < M := by omega
  clear HP HI HK HBX HG
  cases hmr : rdH (bs.drop p) with
  | error c =>
   have hc := rdH_err hmr
   obtain rfl : G = ((0, 0, 0), 0, c) := by rw [HGM.out, hmr]
   have hcb : (c != 0) = true := by simp; omega
   have HMR := Lib.hid hmr
   clear HGM hmr HM
   dsimp only
   go_wp2_with fail
   refine (impl_tfail A a cap bs p c _ HPX.out).mono ?_
   rintro e w2 ⟨rfl, hp2, hk2⟩
   have p2 := hk2.is HIX.out (by omega)
   have f2 := fun i => p2.frozen i
   have l2 := p2.lt
   obtain ⟨o0, o1, o2⟩ := p2.cells3
   go_wp2_with fail
   obtain ⟨e0, e1, e2⟩ := (((p2.set 0 (.int .i64 0)).set 1 (.int .i64 0)).set 2 (.int .i64 0)).cells3
   have hbel := below3s w2 R (.int .i64 0) (.int .i64 0) (.int .i64 0)
   refine bodyPost_ret (v := .agg (cH 0 0 0)) (by simp [results, Tryz.results153, go_sem, e0, e1, e2]) rfl (Or.inr ⟨c, HMR.out, rfl, hp2.below hbel hRA, Kp.grow (HKX.out.trans hk2) (hbel.mono (by omega)) (by omega)⟩)
  | ok knu =>
   obtain ⟨⟨m, n, wd⟩, u⟩ := knu
   obtain rfl : G = ((m, n, wd), (p : Int) + u, 0) := by rw [HGM.out, hmr]
   have HMR := Lib.hid hmr
   clear HGM hmr
   dsimp only at HM ⊢
   obtain ⟨q, hq⟩ : ∃ q, p + u = q := ⟨_, rfl⟩
   have hqi : (p : Int) + (u : Int) = (q : Int) := by omega
   rw [hqi]
   have HQ := Lib.hid hq; clear hq
   have HPQ := Lib.hid (HPX.out.at (q : Int))
   have HMQ := Lib.hid (HM.out.miss A 1 (by omega) (.int .i64 (q : Int)))
   have HIQ := Lib.hid (HIX.out.miss A 1 (by omega) (.int .i64 (q : Int)))
   have HKQ := Lib.hid (HKX.out.trans (Kp.cell (A := A) (w := wx) 1 (.int .i64 (q : Int))))
   have ff := fun i => HPX.out.1.frozen i
   obtain ⟨z0, z1, z2⟩ := HPX.out.1.cells3
   have hAx : A < wx.heap.size := HPX.out.lt
   go_upto_region 6 with (fail)
   clear ff z0 z1 z2 hAx HPX HIX HM HKX
   generalize wx.setCell ⟨A, 1, none⟩ (.int .i64 (q : Int)) = wq at *
   obtain ⟨m0, m1, m2⟩ := HMQ.out.cells3
   obtain ⟨r0, r1, r2⟩ := HIQ.out.cells3
   have fr := fun i => HIQ.out.frozen i
   have lR := HIQ.out.lt
   have lM := HMQ.out.lt
   go_wp2_with fail
   obtain ⟨e0, e1, e2⟩ := (((HIQ.out.set 0 (.int .i64 m)).set 1 (.int .i64 n)).set 2 (.int .i64 wd)).cells3
   have hbel := below3s wq R (.int .i64 m) (.int .i64 n) (.int .i64 wd)
   refine bodyPost_ret (v := .agg (cH m n wd)) (by simp [results, Tryz.results153, go_sem, e0, e1, e2]) rfl (Or.inl ⟨m, n, wd, u, HMR.out, rfl, ?_, Kp.grow HKQ.out (hbel.mono (by omega)) (by omega)⟩)
   rw [HQ.out]
   exact HPQ.out.below hbel hRA
set_option maxHeartbeats 4000000 in
theorem impl_tends (A : Nat) (a : Option Addr) (cap : Nat) (bs : List Int) (p : Nat) (w : World) (hp : Tr w A a cap bs p 0) (hlen : bs.length ≤ 1073741824) :
  Calls Tryz.prog 218 #[.pointer (some ⟨A, 0, none⟩)] w fun e w' => e = .returned (.bool (decide ((bs.drop p).getD 0 0 = 255))) ∧ ∃ n, w' = w.drewN n := by
 have hlA := hp.lt
 obtain ⟨z0, z1, z2⟩ := hp.1.cells3
 have HP := Lib.hid hp; clear hp
 by_cases hlt : p < bs.length
 ·have hltz : (p : Int) < (bs.length : Int) := by omega
  obtain ⟨b, o, hae, hbl, hcell, hx0, hx1⟩ := HP.out.2.byte p hlt
  subst hae
  have hlb : b < w.heap.size := by omega
  have hg : (bs.drop p).getD 0 0 = bs[p] := by rw [List.drop_eq_getElem_cons hlt]; rfl
  rw [hg]
  clear hg
  generalize bs[p] = x at *
  obtain ⟨bb, hbb⟩ : ∃ bb, decide (x = 255) = bb := ⟨_, rfl⟩
  have hbq : (x == 255) = bb := by rw [← hbb]; simp [BEq.beq]
  rw [hbb]
  clear hbb
  go_enter Tryz.func218, Tryz.ntmps218
  go_upto_region 1 with (fail)
  go_quiet (fail)
  go_wp2_with fail
  go_ret
  exact ⟨rfl, _, rfl⟩
 ·have hltz : ¬ (p : Int) < (bs.length : Int) := by omega
  have hg : decide ((bs.drop p).getD 0 0 = 255) = false := by rw [List.drop_eq_nil_of_le (by omega)]; rfl
  rw [hg]
  clear hg hlt
  go_enter Tryz.func218, Tryz.ntmps218
  go_upto_region 1 with (fail)
  go_quiet (fail)
  go_wp2_with fail
  go_ret
  exact ⟨rfl, _, rfl⟩
set_option maxHeartbeats 8000000 in
theorem impl_tbytes (A : Nat) (a : Option Addr) (cap : Nat) (bs : List Int) (p : Nat) (mj n wd : Int) (w : World) (hp : Tr w A a cap bs p 0) (hp0 : 0 < p) (hpl : p ≤ bs.length) (hlen : bs.length ≤ 1073741824) (hn : 0 ≤ n ∧ n ≤ 1000000000000000) (henv : Env A w) :
  Calls Tryz.prog 217 #[.pointer (some ⟨A, 0, none⟩), .agg (cH mj n wd)] w fun e w' =>
   (∃ s v, rdStr mj n (bs.drop p) = .ok (s, v) ∧ e = .returned (.string (strOfNums s)) ∧ s.length ≤ bs.length ∧ p + v ≤ bs.length ∧ Tr w' A a cap bs ((p + v : Nat) : Int) 0 ∧ Kp A w w') ∨
   (rdStr mj n (bs.drop p) = .error 1 ∧ e = .returned (.string ⟨#[]⟩) ∧ Tr w' A a cap bs p 1 ∧ Kp A w w') := by
 have hlA := hp.lt
 obtain ⟨m, rfl⟩ : ∃ m : Nat, n = m := ⟨n.toNat, by omega⟩
 have hm := hn.2; clear hn
 have HP := Lib.hid (hp.below (below1 w (.cells (cH mj m wd) 56)) hlA)
 have HM := Lib.hid (Is.new w (cH mj m wd) 56)
 have HK := Lib.hid (Kp.alloc (w := w) (Nat.le_of_lt hlA) (.cells (cH mj m wd) 56))
 have HENV := Lib.hid (henv.step HK.out.1)
 obtain ⟨hlc, hcap⟩ := hp.2.len
 obtain ⟨D, hD⟩ : ∃ D, bs.length - p = D := ⟨_, rfl⟩
 have hsb : (bs.length : Int) - (p : Int) = (D : Int) := by omega
 have HRS := Lib.hid (show rdStr mj m (bs.drop p) = (if (D : Int) < (m : Int) then .error 1 else if mj = 3 ∧ Lib.validD (strOfNums ((bs.drop p).take m)).data.toList = false then .error 1 else .ok ((bs.drop p).take m, m)) from by
  unfold rdStr; rw [List.length_drop, hD, Int.toNat_natCast])
 obtain ⟨L, hL⟩ : ∃ L, rdStr mj (m : Int) (bs.drop p) = L := ⟨_, rfl⟩
 rw [hL] at HRS ⊢
 have hdq : p + D = bs.length := by omega
 clear hL hD hp henv
 go_enter Tryz.func217, Tryz.ntmps217
 go_upto_region 1 with (fail)
 have hs1 : (w.alloc (.cells (cH mj m wd) 56)).heap.size = w.heap.size + 1 := by simp
 obtain ⟨M, hM⟩ : ∃ M, w.heap.size = M := ⟨_, rfl⟩
 rw [hM] at hs1 HM ⊢
 have hMA : A < M := by omega
 generalize w.alloc (.cells (cH mj m wd) 56) = w1 at *
 have lA1 := HP.out.lt; have lM1 := HM.out.lt
 obtain ⟨z0, z1, z2⟩ := HP.out.1.cells3
 obtain ⟨m0, m1, m2⟩ := HM.out.cells3
 by_cases hlt : D < m
 ·have hlz : (D : Int) < (m : Int) := by omega
  have HLE := Lib.hid (show L = .error 1 from by rw [HRS.out, if_pos hlz])
  go_quiet (fail)
  have HPE := Lib.hid (show Tr (w1.drewN nq) A a cap bs (p : Int) 0 from HP.out.below (below_drewN (A + 1) w1 nq) (by omega))
  have HKE := Lib.hid (HK.out.trans (Kp.drewN (A := A) (w := w1) nq))
  clear z0 z1 z2 m0 m1 m2
  generalize w1.drewN nq = we at *
  go_wp2_with fail
  refine (impl_tfail A a cap bs (p : Int) 1 _ HPE.out).mono ?_
  rintro e w8 ⟨rfl, hp8, hk8⟩
  go_wp2_with fail
  go_ret
  exact Or.inr ⟨HLE.out, rfl, hp8, HKE.out.trans hk8⟩
 have hlz : ¬ (D : Int) < (m : Int) := by omega
 rw [if_neg hlz] at HRS
 obtain ⟨E, hE⟩ : ∃ E, p + m = E := ⟨_, rfl⟩
 have hEi : (p : Int) + (m : Int) = (E : Int) := by omega
 have hEq : E - p = m := by omega
 have hqE : p ≤ E := by omega
 have hEc : E ≤ cap := by omega
 have hqw : IntKind.i64.wrap (p : Int) = (p : Int) := by rw [Go.IntWalk.i64_left, Go.IntWalk.wrap64_in _ ⟨by omega, by omega⟩]
 have hlen2 : ((bs.drop p).take m).length = m := by rw [List.length_take, List.length_drop]; omega
 obtain ⟨S, hS⟩ : ∃ S, strOfNums ((bs.drop p).take m) = S := ⟨_, rfl⟩
 have hSs : S.size = m := by rw [← hS, strOfNums_size, hlen2]
 have HLN2 := Lib.hid hlen2
 have HSE := Lib.hid hS
 rw [hS] at HRS
 go_quiet (fail)
 have HPE := Lib.hid (show Tr (w1.drewN nq) A a cap bs (p : Int) 0 from HP.out.below (below_drewN (A + 1) w1 nq) (by omega))
 have HME := Lib.hid (HM.out.agree (w' := w1.drewN nq) rfl)
 have HEE := Lib.hid (HENV.out.step (below_drewN A w1 nq))
 have HKE := Lib.hid (HK.out.trans (Kp.drewN (A := A) (w := w1) nq))
 clear z0 z1 z2 m0 m1 m2
 generalize w1.drewN nq = we at *
 clear HP HM HENV HK
 obtain ⟨b, o, hae, hbA, hjunk⟩ := HPE.out.2.byte 0 (by omega)
 clear hjunk
 subst hae
 go_upto_region 4 with (fail)
 obtain ⟨z0, z1, z2⟩ := HPE.out.1.cells3
 obtain ⟨m0, m1, m2⟩ := HME.out.cells3
 have lMe := HME.out.lt; have lAe := HPE.out.lt
 have hRM := Lib.hid (fun (W : World) (hR : Rd EByte 1 W A (some ⟨b, o, none⟩) cap bs) => (show (convert 22 9 (.slice (some ⟨b, o + p, none⟩) m (cap - p))).run Tryz.prog W = .ok (.string S) W from by
  have := conv_rd W A b (o + p) (cap - p) _ (hR.mid p m (cap - p) (by omega) (by omega) (by unfold maxLen; omega))
  rw [hlen2, hS] at this; exact this))
 have hRN := Lib.hid (fun (W : World) (hm0 : m = 0) => (show (convert 22 9 (.slice (some ⟨b, o, none⟩) m 0)).run Tryz.prog W = .ok (.string S) W from by
  have := conv_rd W A b o 0 ((bs.drop p).take m) (by rw [hm0, List.take_zero]; exact ⟨[], Sl.nil _ _ _ (by unfold maxLen; omega), by simp⟩)
  rw [hlen2, hS] at this; exact this))
 have hSm : S.size ≤ 4611686018427387903 := by omega
 go_cut [5] (fun sv wx => sv = .string S ∧ Hid (Tr wx A (some ⟨b, o, none⟩) cap bs (p : Int) 0) ∧ Hid (Is wx M 56 (cH mj m wd)) ∧ Hid (Env A wx) ∧ Hid (Kp A w wx))
 case first =>
  by_cases hcq : cap = p
  ·have hcv := hRN.out we (by omega); have hcv2 := hRN.out we.drew (by omega)
   go_region
   go_wp2_with fail
   go_meet
   case rel => exact ⟨rfl, Lib.hid (HPE.out.below (Below.refl (A + 1) we).drew (by omega)), Lib.hid (HME.out.agree (w' := we.drew) rfl), Lib.hid (HEE.out.step (Below.refl A we).drew), Lib.hid (HKE.out.trans (show Kp A we we.drew from ⟨(Below.refl _ _).drew, fun _ _ _ => rfl⟩))⟩
  ·have hcv := hRM.out we HPE.out.2; have hcv2 := hRM.out we.drew (HPE.out.2.below EByte.loc ((Below.refl A _).drew) (Nat.le_refl _))
   go_region
   go_wp2_with fail
   go_meet
   case rel => exact ⟨rfl, Lib.hid (HPE.out.below (Below.refl (A + 1) we).drew (by omega)), Lib.hid (HME.out.agree (w' := we.drew) rfl), Lib.hid (HEE.out.step (Below.refl A we).drew), Lib.hid (HKE.out.trans (show Kp A we we.drew from ⟨(Below.refl _ _).drew, fun _ _ _ => rfl⟩))⟩
 case rest =>
  clear z0 z1 z2 m0 m1 m2 lMe lAe hRM hRN hqw
  obtain ⟨rfl, HP6, HM6, HE6, HK6⟩ := hcut
  clear HPE HME HEE HKE
  rename World => w6
  have hT := HE6.out.2 _ (Below.refl A w6)
  obtain ⟨m0, m1, m2⟩ := HM6.out.cells3
  have lM6 := HM6.out.lt; have lA6 := HP6.out.lt
  have HOKC := Lib.hid (fun (W : World) (h : L = .ok ((bs.drop p).take m, m)) (hT : Tr W A (some ⟨b, o, none⟩) cap bs (E : Int) 0) (hK : Kp A w W) => (show (∃ s v, L = .ok (s, v) ∧ Ending.returned (.string S) = .returned (.string (strOfNums s)) ∧ s.length ≤ bs.length ∧ p + v ≤ bs.length ∧ Tr W A (some ⟨b, o, none⟩) cap bs ((p + v : Nat) : Int) 0 ∧ Kp A w W) from ⟨_, m, h, by rw [HSE.out], by rw [HLN2.out]; omega, by omega, by rw [hE]; exact hT, hK⟩))
  by_cases k3 : mj = 3
  ·have b3 : (mj == 3) = true := by simpa using k3
   cases hvl : Lib.validD S.data.toList with
   | false =>
    have HLE := Lib.hid (show L = .error 1 from by rw [HRS.out, if_pos ⟨k3, hvl⟩])
    have HVL := Lib.hid hvl
    clear k3 hvl
    go_wp2_with fail
    refine (impl_TextOk S w6 hSm hT).mono ?_
    rintro e w7 ⟨rfl, hb7⟩
    rw [HVL.out]
    have HP7 := Lib.hid (HP6.out.below hb7 lA6)
    have HK7 := Lib.hid (Kp.grow HK6.out (hb7.mono (Kp.size HK6.out)) (Nat.le_of_lt hlA))
    clear hb7
    go_wp2_with fail
    refine (impl_tfail A (some ⟨b, o, none⟩) cap bs (p : Int) 1 _ HP7.out).mono ?_
    rintro e w8 ⟨rfl, hp8, hk8⟩
    go_wp2_with fail
    go_ret
    exact Or.inr ⟨HLE.out, rfl, hp8, HK7.out.trans hk8⟩
   | true =>
    have HLE := Lib.hid (show L = .ok ((bs.drop p).take m, m) from by rw [HRS.out, if_neg (by rw [hvl]; simp)])
    have HVL := Lib.hid hvl
    clear k3 hvl
    go_wp2_with fail
    refine (impl_TextOk S w6 hSm hT).mono ?_
    rintro e w7 ⟨rfl, hb7⟩
    rw [HVL.out]
    have HP7 := Lib.hid (HP6.out.below hb7 lA6)
    have HM7 := Lib.hid (HM6.out.below hb7 lM6)
    have HK7 := Lib.hid (Kp.grow HK6.out (hb7.mono (Kp.size HK6.out)) (Nat.le_of_lt hlA))
    clear hb7 m0 m1 m2 hT
    obtain ⟨z0, z1, z2⟩ := HP7.out.1.cells3
    obtain ⟨m0, m1, m2⟩ := HM7.out.cells3
    have fA := fun i => HP7.out.1.frozen i
    have lAx := HP7.out.lt; have lMx := HM7.out.lt
    go_upto_region 8 with (fail)
    go_region
    go_wp2_with fail
    go_ret
    exact Or.inl (HOKC.out _ HLE.out ((HP7.out.at (E : Int)).below ((Below.refl (A + 1) _).drew) (by omega)) ((HK7.out.trans (Kp.cell (A := A) (w := w7) 1 (.int .i64 (E : Int)))).trans (show Kp A _ ((w7.setCell ⟨A, 1, none⟩ (.int .i64 (E : Int))).drew) from ⟨(Below.refl _ _).drew, fun _ _ _ => rfl⟩)))
  ·have b3 : (mj == 3) = false := by simpa using k3
   have HLE := Lib.hid (show L = .ok ((bs.drop p).take m, m) from by rw [HRS.out, if_neg (fun h => k3 h.1)])
   clear k3 hT
   obtain ⟨z0, z1, z2⟩ := HP6.out.1.cells3
   have fA := fun i => HP6.out.1.frozen i
   go_upto_region 8 with (fail)
   go_region
   go_wp2_with fail
   go_ret
   exact Or.inl (HOKC.out _ HLE.out ((HP6.out.at (E : Int)).below ((Below.refl (A + 1) _).drew) (by omega)) ((HK6.out.trans (Kp.cell (A := A) (w := w6) 1 (.int .i64 (E : Int)))).trans (show Kp A _ ((w6.setCell ⟨A, 1, none⟩ (.int .i64 (E : Int))).drew) from ⟨(Below.refl _ _).drew, fun _ _ _ => rfl⟩)))
def TdO (A : Nat) (a : Option Addr) (cap : Nat) (bs : List Int) (p : Nat) (w : World) (r : Except Int (T × Nat)) (e : Ending) (w' : World) : Prop :=
 ∃ t a' cap', e = .returned (.agg (cV t a' cap')) ∧ Wf t ∧ App TV 5 26 True w' w.heap.size w'.heap.size a' cap' t.l ∧ Kp A w w' ∧
  ((∃ u, r = .ok (t, u) ∧ p + u ≤ bs.length ∧ Tr w' A a cap bs ((p + u : Nat) : Int) 0) ∨ (∃ c q, r = .error c ∧ (c = 1 ∨ c = 2) ∧ Tr w' A a cap bs q c))
theorem wfZ : Wf zT := ⟨by show I64 0; exact ⟨by decide, by decide⟩, by show I64 0; exact ⟨by decide, by decide⟩, by show I64 0; exact ⟨by decide, by decide⟩, by show (⟨#[]⟩ : ByteArray).size ≤ maxLen; exact Nat.zero_le _⟩
theorem TdO.fail {A : Nat} {a : Option Addr} {cap : Nat} {bs : List Int} {p : Nat} {w w' : World} {r : Except Int (T × Nat)} {c q : Int} (h : r = .error c) (hc : c = 1 ∨ c = 2) (ht : Tr w' A a cap bs q c) (hk : Kp A w w') : TdO A a cap bs p w r (.returned (.agg zV)) w' :=
 ⟨zT, none, 0, rfl, wfZ, App.nil _ _ _, hk, Or.inr ⟨c, q, h, hc, ht⟩⟩
theorem wfS {k n x : Int} {s : ByteArray} (hk : 0 ≤ k ∧ k ≤ 11) (hn : I64 n) (hx : I64 x) (hs : s.size ≤ 1073741824) : Wf (.mk k n x s []) := ⟨by show I64 k; exact ⟨by omega, by omega⟩, hn, hx, by show s.size ≤ maxLen; unfold maxLen; omega⟩
set_option maxHeartbeats 8000000 in
theorem impl_tsimple (A : Nat) (a : Option Addr) (cap : Nat) (bs : List Int) (p : Nat) (mj n wd : Int) (w : World) (hp : Tr w A a cap bs p 0) (hpl : p ≤ bs.length) (hn : 0 ≤ n ∧ n ≤ 1000000000000000) :
  Calls Tryz.prog 157 #[.pointer (some ⟨A, 0, none⟩), .agg (cH mj n wd)] w fun e w' =>
   TdO A a cap bs p w (match rdSimple n wd with | .error c => .error c | .ok t => .ok (t, 0)) e w' := by
 obtain ⟨hn0, hn1⟩ := hn
 have hlA := hp.lt
 obtain ⟨L, hL⟩ : ∃ L, (match rdSimple n wd with | .error c => (.error c : Except Int (T × Nat)) | .ok t => .ok (t, 0)) = L := ⟨_, rfl⟩
 rw [hL]
 unfold rdSimple at hL
 have HL := Lib.hid hL; clear hL
 have HP := Lib.hid ((hp.below (below1 w (.cells (cH mj n wd) 56)) hlA).below (below1 (w.alloc (.cells (cH mj n wd) 56)) (.cells zV 26)) (by simp; omega))
 have HM := Lib.hid ((Is.new w (cH mj n wd) 56).alloc (.cells zV 26))
 have HI := Lib.hid (Is.new2 w (.cells (cH mj n wd) 56) zV 26)
 have HK := Lib.hid ((Kp.alloc (w := w) (Nat.le_of_lt hlA) (.cells (cH mj n wd) 56)).trans (Kp.alloc (w := w.alloc (.cells (cH mj n wd) 56)) (by simp; omega) (.cells zV 26)))
 clear hp
 go_enter Tryz.func157, Tryz.ntmps157
 go_upto_region 1 with (fail)
 obtain ⟨M, hM⟩ : ∃ M, w.heap.size = M := ⟨_, rfl⟩
 rw [hM] at HM HI ⊢
 obtain ⟨R, hR⟩ : ∃ R, M + 1 = R := ⟨_, rfl⟩
 rw [hR] at HI ⊢
 have hMA : A < M := by omega
 have hRA : A < R := by omega
 have hMR : M < R := by omega
 generalize (w.alloc (.cells (cH mj n wd) 56)).alloc (.cells zV 26) = w1 at *
 clear hR
 obtain ⟨m0, m1, m2⟩ := HM.out.cells3
 obtain ⟨r0, r1, r2, r3, r4⟩ := HI.out.cells5
 have lM := HM.out.lt; have lR := HI.out.lt; have lA := HP.out.lt
 have fr := fun i => HI.out.frozen i
 have FIN := Lib.hid (fun (k n x : Int) (s : ByteArray) (hL : L = .ok (.mk k n x s [], 0)) (hw : Wf (.mk k n x s [])) => (show TdO A a cap bs p w L (.returned (.agg #[.int .i64 k, .int .i64 n, .int .i64 x, .string s, .slice none 0 0])) (((((w1.setCell ⟨R, 0, none⟩ (.int .i64 k)).setCell ⟨R, 1, none⟩ (.int .i64 n)).setCell ⟨R, 2, none⟩ (.int .i64 x)).setCell ⟨R, 3, none⟩ (.string s)).setCell ⟨R, 4, none⟩ (.slice none 0 0)) from by
  obtain ⟨e0, e1, e2, e3, e4, hbel, hold, hsz⟩ := out5 HI.out.blk (.int .i64 k) (.int .i64 n) (.int .i64 x) (.string s) (.slice none 0 0) R (Nat.le_refl _)
  exact ⟨_, none, 0, rfl, hw, App.nil _ _ _, Kp.grow HK.out (hbel.mono (by omega)) (by omega), Or.inl ⟨0, hL, by omega, HP.out.below hbel hRA⟩⟩))
 have hz : I64 0 := ⟨by decide, by decide⟩
 have hzs : (⟨#[]⟩ : ByteArray).size ≤ 1073741824 := by decide
 by_cases c1 : wd = 0 ∧ (n = 20 ∨ n = 21)
 ·obtain ⟨rfl, hn⟩ := c1
  have HLE := Lib.hid (show L = .ok (.mk 2 (n - 20) 0 ⟨#[]⟩ [], 0) from by rw [← HL.out, if_pos ⟨rfl, hn⟩])
  clear HL
  rcases hn with rfl | rfl
  ·go_wp2_with fail
   obtain ⟨e0, e1, e2, e3, e4, _, _, _⟩ := out5 HI.out.blk (.int .i64 2) (.int .i64 0) (.int .i64 0) (.string ⟨#[]⟩) (.slice none 0 0) R (Nat.le_refl _)
   refine bodyPost_ret (v := .agg #[.int .i64 2, .int .i64 0, .int .i64 0, .string ⟨#[]⟩, .slice none 0 0]) (by simp [results, Tryz.results157, go_sem, e0, e1, e2, e3, e4]) rfl (FIN.out 2 0 0 ⟨#[]⟩ HLE.out (wfS (by decide) ⟨by decide, by decide⟩ hz hzs))
  ·go_wp2_with fail
   obtain ⟨e0, e1, e2, e3, e4, _, _, _⟩ := out5 HI.out.blk (.int .i64 2) (.int .i64 1) (.int .i64 0) (.string ⟨#[]⟩) (.slice none 0 0) R (Nat.le_refl _)
   refine bodyPost_ret (v := .agg #[.int .i64 2, .int .i64 1, .int .i64 0, .string ⟨#[]⟩, .slice none 0 0]) (by simp [results, Tryz.results157, go_sem, e0, e1, e2, e3, e4]) rfl (FIN.out 2 1 0 ⟨#[]⟩ HLE.out (wfS (by decide) ⟨by decide, by decide⟩ hz hzs))
 by_cases c2 : wd = 0 ∧ n = 22
 ·obtain ⟨rfl, rfl⟩ := c2
  have HLE := Lib.hid (show L = .ok (.mk 1 0 0 ⟨#[]⟩ [], 0) from by rw [← HL.out]; rfl)
  clear HL c1
  go_wp2_with fail
  obtain ⟨e0, e1, e2, e3, e4, _, _, _⟩ := out5 HI.out.blk (.int .i64 1) (.int .i64 0) (.int .i64 0) (.string ⟨#[]⟩) (.slice none 0 0) R (Nat.le_refl _)
  refine bodyPost_ret (v := .agg #[.int .i64 1, .int .i64 0, .int .i64 0, .string ⟨#[]⟩, .slice none 0 0]) (by simp [results, Tryz.results157, go_sem, e0, e1, e2, e3, e4]) rfl (FIN.out 1 0 0 ⟨#[]⟩ HLE.out (wfS (by decide) hz hz hzs))
 by_cases c3 : wd = 1 ∧ 32 ≤ n ∧ n ≤ 34
 ·obtain ⟨rfl, hn2, hn3⟩ := c3
  have HLE := Lib.hid (show L = .ok (.mk 5 (n - 32) 0 ⟨#[]⟩ [], 0) from by rw [← HL.out, if_neg (by omega), if_neg (by omega), if_pos ⟨rfl, hn2, hn3⟩])
  have HD := Lib.hid (show decide (32 ≤ n ∧ n ≤ 34) = true from decide_eq_true ⟨hn2, hn3⟩)
  clear HL c1 c2
  go_wp2_with (go_at_call 125; refine (impl_withinE _ _ _ _).mono ?_; rintro ee w2 ⟨rfl, rfl⟩; rw [HD.out])
  obtain ⟨e0, e1, e2, e3, e4, _, _, _⟩ := out5 HI.out.blk (.int .i64 5) (.int .i64 (n - 32)) (.int .i64 0) (.string ⟨#[]⟩) (.slice none 0 0) R (Nat.le_refl _)
  refine bodyPost_ret (v := .agg #[.int .i64 5, .int .i64 (n - 32), .int .i64 0, .string ⟨#[]⟩, .slice none 0 0]) (by simp [results, Tryz.results157, go_sem, e0, e1, e2, e3, e4]) rfl (FIN.out 5 (n - 32) 0 ⟨#[]⟩ HLE.out (wfS (by decide) ⟨by omega, by omega⟩ hz hzs))
 by_cases c4 : wd = 4
 ·subst c4
  have hI : I64 n := ⟨by omega, by omega⟩
  have HI64 := Lib.hid hI
  have HLF := Lib.hid (show (if (bitsFltD n).2 = true then (.ok (.mk 4 (bitsFltD n).1.1 (bitsFltD n).1.2 ⟨#[]⟩ [], 0) : Except Int (T × Nat)) else .error 1) = L from by
   rw [← HL.out]
   by_cases hb : (bitsFltD n).2 = true
   ·rw [if_pos hb, if_neg (by omega), if_neg (by omega), if_neg (by omega), if_pos ⟨rfl, hb⟩]
   ·rw [if_neg hb, if_neg (by omega), if_neg (by omega), if_neg (by omega), if_neg (fun h => hb h.2)])
  have HBI := Lib.hid (bitsFltD_i64 n)
  clear HL c1 c2 c3 hI
  go_wp2_with fail
  refine (impl_BitsFlt n _ HI64.out).mono ?_
  rintro e w3 ⟨rfl, hb3⟩
  obtain ⟨⟨⟨x, y⟩, ok⟩, hbf⟩ : ∃ r, bitsFltD n = r := ⟨_, rfl⟩
  rw [hbf] at HLF HBI ⊢
  dsimp only at HLF HBI ⊢
  clear hbf
  have hs3 := hb3.size
  have HI3 := Lib.hid ((HI.out.below hb3 lR).alloc (.cells (cF x y) 61))
  have HP3 := Lib.hid ((HP.out.below hb3 lA).below (below1 w3 (.cells (cF x y) 61)) (by omega))
  have HK3 := Lib.hid ((Kp.grow HK.out (hb3.mono (Kp.size HK.out)) (Nat.le_of_lt hlA)).trans (Kp.alloc (w := w3) (by omega) (.cells (cF x y) 61)))
  have HF3 := Lib.hid (Is.new w3 (cF x y) 61)
  clear m0 m1 m2 r0 r1 r2 r3 r4 fr FIN hb3
  go_upto_region 9 with (fail)
  obtain ⟨F, hF⟩ : ∃ F, w3.heap.size = F := ⟨_, rfl⟩
  rw [hF] at HF3
  have hRF : R < F := by omega
  try rw [hF]
  generalize w3.alloc (.cells (cF x y) 61) = w4 at *
  clear hF
  have l4 := HI3.out.lt; have lF4 := HF3.out.lt; have lA4 := HP3.out.lt
  cases ok with
  | true =>
   have HLE := Lib.hid (show L = .ok (.mk 4 x y ⟨#[]⟩ [], 0) from HLF.out.symm)
   clear HLF
   obtain ⟨r0, r1, r2, r3, r4⟩ := HI3.out.cells5
   have fr := fun i => HI3.out.frozen i
   obtain ⟨c0, c1⟩ := HF3.out.cells2
   go_wp2_with fail
   obtain ⟨e0, e1, e2, e3, e4, hbel, hold, hsz⟩ := out5 HI3.out.blk (.int .i64 4) (.int .i64 x) (.int .i64 y) (.string ⟨#[]⟩) (.slice none 0 0) R (Nat.le_refl _)
   refine bodyPost_ret (v := .agg #[.int .i64 4, .int .i64 x, .int .i64 y, .string ⟨#[]⟩, .slice none 0 0]) (by simp [results, Tryz.results157, go_sem, e0, e1, e2, e3, e4]) rfl
    ⟨_, none, 0, rfl, wfK2 HBI.out.1 HBI.out.2, App.nil _ _ _, Kp.grow HK3.out (hbel.mono (by omega)) (by omega), Or.inl ⟨0, HLE.out, by omega, HP3.out.below hbel hRA⟩⟩
  | false =>
   have HLE := Lib.hid (show L = .error 1 from HLF.out.symm)
   clear HLF
   go_wp2_with fail
   refine (impl_tfail A a cap bs (p : Int) 1 _ HP3.out).mono ?_
   rintro e w8 ⟨rfl, hp8, hk8⟩
   have p8 := hk8.is HI3.out (by omega)
   have f8 := fun i => p8.frozen i
   have l8 := p8.lt
   obtain ⟨o0, o1, o2, o3, o4⟩ := p8.cells5
   go_wp2_with fail
   obtain ⟨e0, e1, e2, e3, e4, hbel, hold, hsz⟩ := out5 p8.blk (.int .i64 0) (.int .i64 0) (.int .i64 0) (.string ⟨#[]⟩) (.slice none 0 0) R (Nat.le_refl _)
   refine bodyPost_ret (v := .agg zV) (by simp [results, Tryz.results157, go_sem, e0, e1, e2, e3, e4]) rfl (TdO.fail HLE.out (Or.inl rfl) (hp8.below hbel hRA) (Kp.grow (HK3.out.trans hk8) (hbel.mono (by omega)) (by omega)))
 have HLE := Lib.hid (show L = .error 1 from by rw [← HL.out, if_neg c1, if_neg c2, if_neg c3, if_neg (fun h => c4 h.1)])
 have HTF := Lib.hid (impl_tfail A a cap bs (p : Int) 1 w1 HP.out)
 have b4 : (wd == 4) = false := by simpa using c4
 have HC1 := Lib.hid c1; have HC2 := Lib.hid c2; have HC3 := Lib.hid c3
 have HD := Lib.hid (show wd = 1 → decide (32 ≤ n ∧ n ≤ 34) = false from fun h => decide_eq_false (fun hh => c3 ⟨h, hh⟩))
 rcases (show ((wd == 0) = true ∧ (n == 20) = false ∧ (n == 21) = false ∧ (n == 22) = false ∧ (wd == 1) = false) ∨ ((wd == 0) = false ∧ (wd == 1) = true) ∨ ((wd == 0) = false ∧ (wd == 1) = false) from by
  by_cases h0 : wd = 0
  ·exact Or.inl ⟨by simpa using h0, by simp; omega, by simp; omega, by simp; omega, by simp; omega⟩
  ·by_cases h1 : wd = 1
   ·exact Or.inr (Or.inl ⟨by simpa using h0, by simpa using h1⟩)
   ·exact Or.inr (Or.inr ⟨by simpa using h0, by simpa using h1⟩)) with ⟨b0, b20, b21, b22, b1⟩ | ⟨b0, b1⟩ | ⟨b0, b1⟩
 all_goals
  clear HL c1 c2 c3 c4
  go_wp2_with (first | (go_at_call 125; refine (impl_withinE _ _ _ _).mono ?_; rintro ee w2 ⟨rfl, rfl⟩; rw [HD.out (by simpa using b1)]) | (go_at_call 152; refine HTF.out.mono ?_; rintro e w8 ⟨rfl, hp8, hk8⟩; have p8 := hk8.is HI.out (by omega); have f8 := (fun i => p8.frozen i); have l8 := p8.lt; obtain ⟨o0, o1, o2, o3, o4⟩ := p8.cells5))
  obtain ⟨e0, e1, e2, e3, e4, hbel, hold, hsz⟩ := out5 p8.blk (.int .i64 0) (.int .i64 0) (.int .i64 0) (.string ⟨#[]⟩) (.slice none 0 0) R (Nat.le_refl _)
  refine bodyPost_ret (v := .agg zV) (by simp [results, Tryz.results157, go_sem, e0, e1, e2, e3, e4]) rfl (TdO.fail HLE.out (Or.inl rfl) (hp8.below hbel hRA) (Kp.grow (HK.out.trans hk8) (hbel.mono (by omega)) (by omega)))
theorem AppL.kpB {α : Type} {E : World → Nat → Nat → α → List Nat → Prop} {n : Nat} {e : TypeId} (hE : Elem E n) {w w' : World} {A rlo cap : Nat} {a : Option Addr} {l : List α} (h : AppL E n e w rlo a cap l []) (hk : Kp A w w') (hA : A < rlo) : AppL E n e w' rlo a cap l [] := by
 rcases h with h | ⟨g, cur, ha, h1, h3, h4, h5, h6, h7, h8⟩
 ·exact Or.inl h
 ·have hg : g < w.heap.size := (Array.getElem?_eq_some_iff.1 h3).1
  exact Or.inr ⟨g, cur, ha, h1, (hk.heap g (by omega) hg).trans h3, h4, h5, h6, h7.agree hE.loc l (Cells.of_block (hk.heap g (by omega) hg) _ _) (fun f hf => by cases hf), h8⟩
theorem AppL.fwd {α : Type} {E : World → Nat → Nat → α → List Nat → Prop} {n : Nat} {e : TypeId} (hE : Elem E n) {w w' : World} {m rlo cap : Nat} {a : Option Addr} {l : List α} (h : AppL E n e w rlo a cap l []) (hb : Below m w w') (hm : w.heap.size ≤ m) : AppL E n e w' rlo a cap l [] := by
 rcases h with h | ⟨g, cur, ha, h1, h3, h4, h5, h6, h7, h8⟩
 ·exact Or.inl h
 ·have hg : g < w.heap.size := (Array.getElem?_eq_some_iff.1 h3).1
  exact Or.inr ⟨g, cur, ha, h1, (hb.block g (by omega)).trans h3, h4, h5, h6, h7.agree hE.loc l (Cells.of_block (hb.block g (by omega)) _ _) (fun f hf => by cases hf), h8⟩
theorem rdParts_end {mj : Int} {f : Nat} {l : List Int} (h : l.getD 0 0 = 255) : rdParts mj (f + 1) l = .ok ([], 1) := by rw [rdParts, if_pos h]
theorem rdParts_head {mj : Int} {f : Nat} {l : List Int} (h : ¬ l.getD 0 0 = 255) {c : Int} (hc : rdH l = .error c) : rdParts mj (f + 1) l = .error c := by rw [rdParts, if_neg h, hc]
theorem rdParts_form {mj : Int} {f : Nat} {l : List Int} (h : ¬ l.getD 0 0 = 255) {m n w : Int} {u : Nat} (hc : rdH l = .ok ((m, n, w), u)) (hb : m ≠ mj ∨ w = -1) : rdParts mj (f + 1) l = .error 1 := by rw [rdParts, if_neg h, hc]; exact if_pos hb
theorem rdParts_str {mj : Int} {f : Nat} {l : List Int} (h : ¬ l.getD 0 0 = 255) {m n w : Int} {u : Nat} (hc : rdH l = .ok ((m, n, w), u)) (hb : ¬ (m ≠ mj ∨ w = -1)) : rdParts mj (f + 1) l = (match rdStr m n (l.drop u) with | .error c => .error c | .ok (s, v) => match rdParts mj f ((l.drop u).drop v) with | .error c => .error c | .ok (s2, v2) => .ok (s ++ s2, u + v + v2)) := by
 rw [rdParts, if_neg h, hc]
 exact if_neg hb
theorem strOfNums_app (a b : List Int) : strOfNums (a ++ b) = strOfNums a ++ strOfNums b := by
 apply ByteArray.ext
 apply Array.toList_inj.1
 rw [strOfNums_list, ByteArray.data_append, Array.toList_append, strOfNums_list, strOfNums_list, List.map_append]
def posT (A : Nat) (w : World) : Nat := match w.cell? ⟨A, 1, none⟩ with | some v => (intOf v).toNat | none => 0
theorem Tr.pos {w : World} {A : Nat} {a : Option Addr} {cap : Nat} {bs : List Int} {p : Nat} {c : Int} (h : Tr w A a cap bs p c) : posT A w = p := by
 obtain ⟨_, z1, _⟩ := h.1.cells3
 unfold posT
 rw [z1]; simp [intOf]
def partsS (mj : Int) (f : Nat) (l : List Int) : Except Int (ByteArray × Nat) := match rdParts mj f l with | .error c => .error c | .ok (s, v) => .ok (strOfNums s, v)
set_option maxHeartbeats 16000000 in
theorem impl_ttext (A : Nat) (a : Option Addr) (cap : Nat) (bs : List Int) (p : Nat) (mj n wd : Int) (w : World) (hp : Tr w A a cap bs p 0) (hp0 : 0 < p) (hpl : p ≤ bs.length) (hlen : bs.length ≤ 1073741824) (hmj : mj = 2 ∨ mj = 3) (hn : 0 ≤ n ∧ n ≤ 1000000000000000) (hw64 : I64 wd) (henv : Env A w) :
  Calls Tryz.prog 155 #[.pointer (some ⟨A, 0, none⟩), .agg (cH mj n wd)] w fun e w' =>
   TdO A a cap bs p w (match (if wd = -1 then rdParts mj ((bs.drop p).length + 1) (bs.drop p) else rdStr mj n (bs.drop p)) with | .error c => .error c | .ok (s, v) => .ok (.mk (if mj = 3 then 7 else 8) 0 0 (strOfNums s) [], v)) e w' := by
 have hlA := hp.lt
 obtain ⟨kd, hkd⟩ : ∃ kd : Int, (if mj = 3 then 7 else 8) = kd := ⟨_, rfl⟩
 have hkd2 : kd = 7 ∨ kd = 8 := by rw [← hkd]; split <;> omega
 have hkd3 : (mj == 3) = true ∧ kd = 7 ∨ (mj == 3) = false ∧ kd = 8 := by
  by_cases h : mj = 3
  ·exact Or.inl ⟨by simpa using h, by rw [← hkd, if_pos h]⟩
  ·exact Or.inr ⟨by simpa using h, by rw [← hkd, if_neg h]⟩
 rw [hkd]
 obtain ⟨L, hL⟩ : ∃ L, (match (if wd = -1 then rdParts mj ((bs.drop p).length + 1) (bs.drop p) else rdStr mj n (bs.drop p)) with | .error c => (.error c : Except Int (T × Nat)) | .ok (s, v) => .ok (.mk kd 0 0 (strOfNums s) [], v)) = L := ⟨_, rfl⟩
 rw [hL]
 have HL := Lib.hid hL; clear hL hkd
 have hb1 : Below w.heap.size w ((w.alloc (.cells (cH mj n wd) 56)).alloc (.cells zV 26)) := (below1 w _).trans ((below1 _ _).mono (by simp))
 have HM1 := Lib.hid ((Is.new w (cH mj n wd) 56).alloc (.cells zV 26))
 have HR1 := Lib.hid (Is.new2 w (.cells (cH mj n wd) 56) zV 26)
 have HP1 := Lib.hid (hp.below hb1 hlA)
 have HK1 := Lib.hid (Kp.of_below hb1 (Nat.le_refl _) (Nat.le_of_lt hlA))
 have HE1 := Lib.hid (henv.step HK1.out.1)
 obtain ⟨hlc, hcap⟩ := hp.2.len
 clear hp henv hb1
 have HKD := Lib.hid hkd3; clear hkd3
 go_enter Tryz.func155, Tryz.ntmps155
 go_upto_region 1 with (fail)
 have hs1 : ((w.alloc (.cells (cH mj n wd) 56)).alloc (.cells zV 26)).heap.size = w.heap.size + 2 := by simp
 obtain ⟨M, hM⟩ : ∃ M, w.heap.size = M := ⟨_, rfl⟩
 rw [hM] at hs1 HM1 HR1
 try rw [hM]
 obtain ⟨R, hR⟩ : ∃ R, M + 1 = R := ⟨_, rfl⟩
 rw [hR] at HR1
 try rw [hR]
 have hMA : A < M := by omega
 have hMR : M < R := by omega
 have hs2 : ((w.alloc (.cells (cH mj n wd) 56)).alloc (.cells zV 26)).heap.size = R + 1 := by omega
 clear hs1 hR
 generalize (w.alloc (.cells (cH mj n wd) 56)).alloc (.cells zV 26) = w1 at *
 have hs3 : R < w1.heap.size := by omega
 go_upto_region 2 with (fail)
 obtain ⟨V, hV⟩ : ∃ V, R + 1 = V := ⟨_, rfl⟩
 have hRV : R < V := by omega
 have HV2 := Lib.hid (show Is (w1.alloc (.cells #[.int .i64 8, .int .i64 0, .int .i64 0, .string ⟨#[]⟩, .slice none 0 0] 26)) V 26 #[.int .i64 8, .int .i64 0, .int .i64 0, .string ⟨#[]⟩, .slice none 0 0] from hV ▸ hs2 ▸ Is.new w1 _ _)
 clear hs2 hs3
 have hb2 := below1 w1 (.cells #[.int .i64 8, .int .i64 0, .int .i64 0, .string ⟨#[]⟩, .slice none 0 0] 26)
 have HR2 := Lib.hid (HR1.out.below hb2 HR1.out.lt)
 have HM2 := Lib.hid (HM1.out.below hb2 HM1.out.lt)
 have HP2 := Lib.hid (HP1.out.below hb2 HP1.out.lt)
 have HK2 := Lib.hid (Kp.grow HK1.out (hb2.mono (Kp.size HK1.out)) (Nat.le_of_lt hlA))
 have HE2 := Lib.hid (HE1.out.step (hb2.mono (Nat.le_of_lt HP1.out.lt)))
 clear HR1 HM1 HP1 HK1 HE1 hb2
 try rw [hV]
 generalize w1.alloc (.cells #[.int .i64 8, .int .i64 0, .int .i64 0, .string ⟨#[]⟩, .slice none 0 0] 26) = w2 at *
 clear hV
 have lV := HV2.out.lt; have lM := HM2.out.lt
 obtain ⟨m0, m1, m2⟩ := HM2.out.cells3
 obtain ⟨v0, v1, v2, v3, v4⟩ := HV2.out.cells5
 have fv := fun i => HV2.out.frozen i
 go_upto_if 11 with (fail)
 go_cut [] (fun wx => Hid (Is wx V 26 #[.int .i64 kd, .int .i64 0, .int .i64 0, .string ⟨#[]⟩, .slice none 0 0]) ∧ Hid (Is wx R 26 zV) ∧ Hid (Is wx M 56 (cH mj n wd)) ∧ Hid (Tr wx A a cap bs (p : Int) 0) ∧ Hid (Kp A w wx) ∧ Hid (Env A wx))
 case first =>
  rcases HKD.out with ⟨b3, rfl⟩ | ⟨b3, rfl⟩
  ·go_wp2_with fail
   go_meet
   case rel => exact ⟨Lib.hid (HV2.out.set 0 _), Lib.hid (HR2.out.miss V 0 (by omega) _), Lib.hid (HM2.out.miss V 0 (by omega) _), Lib.hid (HP2.out.miss V 0 (by omega) _), Lib.hid (Kp.set (g := V) HK2.out (by omega) (by omega) 0 _), Lib.hid (HE2.out.step ((below1s w2 V 0 (.int .i64 7)).mono (by omega)))⟩
  ·go_wp2_with fail
   go_meet
   case rel => exact ⟨HV2, HR2, HM2, HP2, HK2, HE2⟩
 case rest =>
  clear HV2 HR2 HM2 HP2 HK2 HE2 m0 m1 m2 v0 v1 v2 v3 v4 fv lV lM HKD
  obtain ⟨HV, HR, HM, HP, HK, HE⟩ := hcut
  rename World => wx
  have lV := HV.out.lt; have lM := HM.out.lt; have lR := HR.out.lt; have lA := HP.out.lt
  obtain ⟨m0, m1, m2⟩ := HM.out.cells3
  by_cases hw : wd = -1
  case neg =>
   have hwb : (wd != -1) = true := by simpa using hw
   go_wp2_with fail
   refine (impl_tbytes A a cap bs p mj n wd _ HP.out hp0 hpl hlen hn HE.out).mono ?_
   rintro e w3 (⟨s, v, hok, rfl, hsl, hpv, ht3, hk3⟩ | ⟨herr, rfl, ht3, hk3⟩)
   ·have HLE := Lib.hid (show L = .ok (.mk kd 0 0 (strOfNums s) [], v) from by rw [← HL.out, if_neg hw, hok])
    have HSZ := Lib.hid (show (strOfNums s).size ≤ 1073741824 from by rw [strOfNums_size]; omega)
    have HV3 := Lib.hid (hk3.is HV.out (by omega))
    have HR3 := Lib.hid (hk3.is HR.out (by omega))
    have HT3 := Lib.hid ht3
    have HK3 := Lib.hid (HK.out.trans hk3)
    have hPV := Lib.hid hpv
    generalize strOfNums s = S at *
    clear hk3 ht3 hok m0 m1 m2 hpv hsl
    obtain ⟨v0, v1, v2, v3, v4⟩ := HV3.out.cells5
    have fv := fun i => HV3.out.frozen i
    obtain ⟨r0, r1, r2, r3, r4⟩ := HR3.out.cells5
    have fr := fun i => HR3.out.frozen i
    have lV3 := HV3.out.lt; have lR3 := HR3.out.lt
    go_wp2_with fail
    have hi := HR3.out.miss V 3 (by omega) (.string S)
    obtain ⟨e0, e1, e2, e3, e4, hbel, hold, hsz⟩ := out5 hi.blk (.int .i64 kd) (.int .i64 0) (.int .i64 0) (.string S) (.slice none 0 0) R (Nat.le_refl _)
    refine bodyPost_ret (v := .agg #[.int .i64 kd, .int .i64 0, .int .i64 0, .string S, .slice none 0 0]) (by simp [results, Tryz.results155, go_sem, e0, e1, e2, e3, e4]) rfl
     ⟨_, none, 0, rfl, wfS (by omega) ⟨by decide, by decide⟩ ⟨by decide, by decide⟩ HSZ.out, App.nil _ _ _, Kp.grow (Kp.set (g := V) HK3.out (by omega) (by omega) 3 _) (hbel.mono (by omega)) (by omega), Or.inl ⟨v, HLE.out, hPV.out, (HT3.out.miss V 3 (by omega) _).below hbel (by omega)⟩⟩
   ·have HLE := Lib.hid (show L = .error 1 from by rw [← HL.out, if_neg hw, herr])
    have HV3 := Lib.hid (hk3.is HV.out (by omega))
    have HR3 := Lib.hid (hk3.is HR.out (by omega))
    have HT3 := Lib.hid ht3
    have HK3 := Lib.hid (HK.out.trans hk3)
    clear hk3 ht3 herr m0 m1 m2
    obtain ⟨v0, v1, v2, v3, v4⟩ := HV3.out.cells5
    have fv := fun i => HV3.out.frozen i
    obtain ⟨r0, r1, r2, r3, r4⟩ := HR3.out.cells5
    have fr := fun i => HR3.out.frozen i
    have lV3 := HV3.out.lt; have lR3 := HR3.out.lt
    go_wp2_with fail
    have hi := HR3.out.miss V 3 (by omega) (.string ⟨#[]⟩)
    obtain ⟨e0, e1, e2, e3, e4, hbel, hold, hsz⟩ := out5 hi.blk (.int .i64 kd) (.int .i64 0) (.int .i64 0) (.string ⟨#[]⟩) (.slice none 0 0) R (Nat.le_refl _)
    refine bodyPost_ret (v := .agg #[.int .i64 kd, .int .i64 0, .int .i64 0, .string ⟨#[]⟩, .slice none 0 0]) (by simp [results, Tryz.results155, go_sem, e0, e1, e2, e3, e4]) rfl
     ⟨.mk kd 0 0 ⟨#[]⟩ [], none, 0, rfl, wfS (by omega) ⟨by decide, by decide⟩ ⟨by decide, by decide⟩ (by decide), App.nil _ _ _, Kp.grow (Kp.set (g := V) HK3.out (by omega) (by omega) 3 _) (hbel.mono (by omega)) (by omega), Or.inr ⟨1, _, HLE.out, Or.inl rfl, (HT3.out.miss V 3 (by omega) _).below hbel (by omega)⟩⟩
  subst hw
  have HLP := Lib.hid (show (match partsS mj ((bs.drop p).length + 1) (bs.drop p) with | .error c => (.error c : Except Int (T × Nat)) | .ok (S, v) => .ok (.mk kd 0 0 S [], v)) = L from by
   rw [← HL.out, if_pos rfl]; unfold partsS
   cases rdParts mj ((bs.drop p).length + 1) (bs.drop p) with
   | error c => rfl
   | ok x => rfl)
  clear HL
  have HU := Lib.hid (HP.out.2.u8)
  go_wp2_with fail
  have hb5 := below1 wx (.cells #[] 5)
  have HO5 := Lib.hid ((AppL.empty (E := EByte) (n := 1) (e := 5) wx (V + 1) (by omega)))
  have HV5 := Lib.hid (HV.out.below hb5 lV)
  have HR5 := Lib.hid (HR.out.below hb5 lR)
  have HM5 := Lib.hid (HM.out.below hb5 lM)
  have HP5 := Lib.hid (HP.out.below hb5 lA)
  have HK5 := Lib.hid (Kp.grow HK.out (hb5.mono (Kp.size HK.out)) (Nat.le_of_lt hlA))
  have HE5 := Lib.hid (HE.out.step (hb5.mono (Nat.le_of_lt lA)))
  clear HV HR HM HP HK HE hb5 m0 m1 m2
  go_loopw [6, 7] (fun ov _ wr => ∃ (s f : Nat) (O : ByteArray) (ao : Option Addr) (co : Nat), ov = .slice ao (byteL O).length co ∧ p ≤ s ∧ s ≤ bs.length ∧ bs.length - s < f ∧ O.size ≤ s ∧ Hid (AppL EByte 1 5 wr (V + 1) ao co (byteL O) []) ∧ Hid (Tr wr A a cap bs (s : Int) 0) ∧ Hid (Is wr V 26 #[.int .i64 kd, .int .i64 0, .int .i64 0, .string ⟨#[]⟩, .slice none 0 0]) ∧ Hid (Is wr R 26 zV) ∧ Hid (Is wr M 56 (cH mj n (-1))) ∧ Hid (Kp A w wr) ∧ Hid (Env A wr) ∧
   Hid ((match partsS mj f (bs.drop s) with | .error c => (.error c : Except Int (T × Nat)) | .ok (S, v) => .ok (.mk kd 0 0 (O ++ S) [], (s - p) + v)) = L)) (fun _ _ wr => bs.length - posT A wr)
  case atStart => exact ⟨p, (bs.drop p).length + 1, ⟨#[]⟩, _, _, rfl, Nat.le_refl _, hpl, by rw [List.length_drop]; omega, Nat.zero_le _, HO5, HP5, HV5, HR5, HM5, HK5, HE5, Lib.hid (by
   rw [← HLP.out]
   cases partsS mj ((bs.drop p).length + 1) (bs.drop p) with
   | error c => rfl
   | ok x => obtain ⟨S, v⟩ := x; simp [show (⟨#[]⟩ : ByteArray) ++ S = S from ByteArray.ext (by simp [ByteArray.data_append])])⟩
  case round =>
   clear HO5 HP5 HV5 HR5 HM5 HK5 HE5 HLP lV lM lR lA
   obtain ⟨s, f, O, ao, co, rfl, hps, hsl, hf, hOs, HO, HP, HV, HR, HM, HK, HE, HREL⟩ := hrel
   obtain ⟨f', rfl⟩ : ∃ f', f = f' + 1 := ⟨f - 1, by omega⟩
   have lV := HV.out.lt; have lM := HM.out.lt; have lR := HR.out.lt; have lA := HP.out.lt
   have HPOS := Lib.hid HP.out.pos
   have hbl := byteL_len O
   by_cases hend : (bs.drop s).getD 0 0 = 255
   ·have hsl2 : s < bs.length := by
     rcases Nat.lt_or_ge s bs.length with h | h
     ·exact h
     ·rw [List.drop_eq_nil_of_le h] at hend; simp at hend
    have HLE := Lib.hid (show L = .ok (.mk kd 0 0 O [], (s - p) + 1) from by
     rw [← HREL.out]; unfold partsS; rw [rdParts_end hend]
     simp [show O ++ strOfNums [] = O from ByteArray.ext (by simp [ByteArray.data_append, strOfNums])])
    have HDD := Lib.hid (show decide ((bs.drop s).getD 0 0 = 255) = true from decide_eq_true hend)
    clear HREL hend
    go_wp2_with fail
    refine (impl_tends A a cap bs s wr HP.out hlen).mono ?_
    rintro e w3 ⟨rfl, nq, rfl⟩
    rw [HDD.out]
    have HP3 := Lib.hid (show Tr (wr.drewN nq) A a cap bs (s : Int) 0 from HP.out.below (below_drewN (A + 1) wr nq) (by omega))
    have HV3 := Lib.hid (HV.out.agree (w' := wr.drewN nq) rfl)
    have HR3 := Lib.hid (HR.out.agree (w' := wr.drewN nq) rfl)
    have HO3 := Lib.hid (HO.out.agree (w' := wr.drewN nq) EByte.elem (fun _ _ => rfl) (by omega))
    have HK3 := Lib.hid (HK.out.trans (Kp.drewN (A := A) (w := wr) nq))
    clear HP HV HR HM HO HK HE lV lM lR lA
    generalize wr.drewN nq = w3 at *
    have lV := HV3.out.lt; have lR := HR3.out.lt; have lA := HP3.out.lt
    obtain ⟨S1, hS1⟩ : ∃ S1, s + 1 = S1 := ⟨_, rfl⟩
    have hsi : (s : Int) + 1 = (S1 : Int) := by omega
    obtain ⟨z0, z1, z2⟩ := HP3.out.1.cells3
    have fA := fun i => HP3.out.1.frozen i
    go_upto_region 18 with (fail)
    have HP4 := Lib.hid (HP3.out.at (S1 : Int))
    have HV4 := Lib.hid (HV3.out.miss A 1 (by omega) (.int .i64 (S1 : Int)))
    have HR4 := Lib.hid (HR3.out.miss A 1 (by omega) (.int .i64 (S1 : Int)))
    have HO4 := Lib.hid (HO3.out.kpB EByte.elem (Kp.cell (A := A) (w := w3) 1 (.int .i64 (S1 : Int))) (by omega))
    have HK4 := Lib.hid (HK3.out.trans (Kp.cell (A := A) (w := w3) 1 (.int .i64 (S1 : Int))))
    clear HP3 HV3 HR3 HO3 HK3 lV lR lA z0 z1 z2 fA
    generalize w3.setCell ⟨A, 1, none⟩ (.int .i64 (S1 : Int)) = w4 at *
    have hcv := conv_bytes w4 (V + 1) ao co (byteL O) [] HO4.out
    rw [byteL_str, hbl] at hcv
    obtain ⟨v0, v1, v2, v3, v4⟩ := HV4.out.cells5
    have fv := fun i => HV4.out.frozen i
    obtain ⟨r0, r1, r2, r3, r4⟩ := HR4.out.cells5
    have fr := fun i => HR4.out.frozen i
    have lV3 := HV4.out.lt; have lR3 := HR4.out.lt
    go_wp2_with fail
    have hi := HR4.out.miss V 3 (by omega) (.string O)
    obtain ⟨e0, e1, e2, e3, e4, hbel, hold, hsz⟩ := out5 hi.blk (.int .i64 kd) (.int .i64 0) (.int .i64 0) (.string O) (.slice none 0 0) R (Nat.le_refl _)
    refine bodyPost_ret (v := .agg #[.int .i64 kd, .int .i64 0, .int .i64 0, .string O, .slice none 0 0]) (by simp [results, Tryz.results155, go_sem, e0, e1, e2, e3, e4]) rfl
     ⟨_, none, 0, rfl, wfS (by omega) ⟨by decide, by decide⟩ ⟨by decide, by decide⟩ (by omega), App.nil _ _ _, Kp.grow (Kp.set (g := V) HK4.out (by omega) (by omega) 3 _) (hbel.mono (by omega)) (by omega), Or.inl ⟨(s - p) + 1, HLE.out, by omega, ?_⟩⟩
    rw [show p + (s - p + 1) = S1 from by omega]
    exact (HP4.out.miss V 3 (by omega) _).below hbel (by omega)
   ·have HDD := Lib.hid (show decide ((bs.drop s).getD 0 0 = 255) = false from decide_eq_false hend)
    have HEND := Lib.hid hend; clear hend
    go_wp2_with fail
    refine (impl_tends A a cap bs s wr HP.out hlen).mono ?_
    rintro e w3 ⟨rfl, nq, rfl⟩
    rw [HDD.out]
    have HP3 := Lib.hid (show Tr (wr.drewN nq) A a cap bs (s : Int) 0 from HP.out.below (below_drewN (A + 1) wr nq) (by omega))
    have HV3 := Lib.hid (HV.out.agree (w' := wr.drewN nq) rfl)
    have HR3 := Lib.hid (HR.out.agree (w' := wr.drewN nq) rfl)
    have HM3 := Lib.hid (HM.out.agree (w' := wr.drewN nq) rfl)
    have HO3 := Lib.hid (HO.out.agree (w' := wr.drewN nq) EByte.elem (fun _ _ => rfl) (by omega))
    have HK3 := Lib.hid (HK.out.trans (Kp.drewN (A := A) (w := wr) nq))
    have HE3 := Lib.hid (HE.out.step (below_drewN A wr nq))
    clear HP HV HR HM HO HK HE lV lM lR lA HDD
    generalize wr.drewN nq = w3 at *
    go_wp2_with fail
    refine (impl_thead A a cap bs s w3 HP3.out hsl hlen).mono ?_
    rintro e w4 (⟨m2, n2, wd2, u, hok, rfl, ht4, hk4⟩ | ⟨c, herr, rfl, ht4, hk4⟩)
    all_goals
     have HV4 := Lib.hid (hk4.is HV3.out (by omega))
     have HR4 := Lib.hid (hk4.is HR3.out (by omega))
     have HM4 := Lib.hid (hk4.is HM3.out (by omega))
     have HO4 := Lib.hid (HO3.out.kpB EByte.elem hk4 (by omega))
     have HK4 := Lib.hid (HK3.out.trans hk4)
     have HE4 := Lib.hid (HE3.out.step hk4.1)
     have HP4 := Lib.hid ht4
     clear hk4 ht4 HP3 HV3 HR3 HM3 HO3 HK3 HE3
    ·obtain ⟨⟨hu1, hu2⟩, hm2, hn2, hw2⟩ := rdH_in (fun x hx => HU.out x (List.mem_of_mem_drop hx)) hok
     rw [List.length_drop] at hu2
     have HOK := Lib.hid hok; clear hok
     obtain ⟨q, hq⟩ : ∃ q, s + u = q := ⟨_, rfl⟩
     rw [hq] at HP4
     have HQ := Lib.hid hq; clear hq
     have hq1 : s < q := by have := HQ.out; omega
     have hq2 : q ≤ bs.length := by have := HQ.out; omega
     have HW2 := Lib.hid hw2; clear hw2 hu1 hu2
     by_cases hbad : m2 ≠ mj ∨ wd2 = -1
     ·have HLE := Lib.hid (show L = .error 1 from by rw [← HREL.out]; unfold partsS; rw [rdParts_form HEND.out HOK.out hbad])
      clear HREL HOK HEND
      have hb5 := below1 w4 (.cells (cH m2 n2 wd2) 56)
      have HG5 := Lib.hid (Is.new w4 (cH m2 n2 wd2) 56)
      have lA4 := HP4.out.lt; have lR4 := HR4.out.lt; have lM4 := HM4.out.lt
      have HP5 := Lib.hid (HP4.out.below hb5 lA4)
      have HR5 := Lib.hid (HR4.out.below hb5 lR4)
      have HM5 := Lib.hid (HM4.out.below hb5 lM4)
      have HK5 := Lib.hid (Kp.grow HK4.out (hb5.mono (Kp.size HK4.out)) (Nat.le_of_lt hlA))
      clear HP4 HR4 HM4 HK4 HV4 HO4 HE4 hb5
      go_upto_region 10 with (fail)
      obtain ⟨G, hG⟩ : ∃ G, w4.heap.size = G := ⟨_, rfl⟩
      rw [hG] at HG5
      try rw [hG]
      generalize w4.alloc (.cells (cH m2 n2 wd2) 56) = w5 at *
      clear hG lA4 lR4 lM4
      have lA5 := HP5.out.lt; have lR5 := HR5.out.lt; have lM5 := HM5.out.lt; have lG5 := HG5.out.lt
      obtain ⟨z0, z1, z2⟩ := HP5.out.1.cells3
      obtain ⟨g0, g1, g2⟩ := HG5.out.cells3
      obtain ⟨m0, m1, m2'⟩ := HM5.out.cells3
      rcases (show (m2 != mj) = true ∨ ((m2 != mj) = false ∧ (wd2 == -1) = true) from by
       by_cases h : m2 = mj
       ·exact Or.inr ⟨by simp [h], by rcases hbad with h2 | h2; exact absurd h h2; simpa using h2⟩
       ·exact Or.inl (by simpa using h)) with hbb | ⟨hbb, hbw⟩
      all_goals
       clear hbad
       go_wp2_with fail
       refine (impl_tfail A a cap bs (q : Int) 1 _ HP5.out).mono ?_
       rintro e w8 ⟨rfl, hp8, hk8⟩
       have p8 := hk8.is HR5.out (by omega)
       have f8 := fun i => p8.frozen i
       have l8 := p8.lt
       obtain ⟨o0, o1, o2, o3, o4⟩ := p8.cells5
       obtain ⟨x0, x1, x2⟩ := hp8.1.cells3
       have HP8 := Lib.hid hp8
       go_wp2_with fail
       obtain ⟨e0, e1, e2, e3, e4, hbel, hold, hsz⟩ := out5 p8.blk (.int .i64 0) (.int .i64 0) (.int .i64 0) (.string ⟨#[]⟩) (.slice none 0 0) R (Nat.le_refl _)
       refine bodyPost_ret (v := .agg zV) (by simp [results, Tryz.results155, go_sem, e0, e1, e2, e3, e4]) rfl (TdO.fail HLE.out (Or.inl rfl) (HP8.out.below hbel (by omega)) (Kp.grow (HK5.out.trans hk8) (hbel.mono (by omega)) (by omega)))
     ·have HSTR := Lib.hid (rdParts_str (f := f') HEND.out HOK.out hbad)
      obtain ⟨rfl, hw1⟩ : m2 = mj ∧ wd2 ≠ -1 := ⟨by by_cases h : m2 = mj; exact h; exact absurd (Or.inl h) hbad, fun h => hbad (Or.inr h)⟩
      have HREL2 := Lib.hid (show (match (match rdStr m2 n2 (bs.drop q) with | .error c => (.error c : Except Int (List Int × Nat)) | .ok (s, v) => match rdParts m2 f' ((bs.drop q).drop v) with | .error c => .error c | .ok (s2, v2) => .ok (s ++ s2, u + v + v2)) with | .error c => (.error c : Except Int (T × Nat)) | .ok (S, v) => .ok (.mk kd 0 0 (O ++ strOfNums S) [], (s - p) + v)) = L from by
       rw [← HREL.out]; unfold partsS; rw [HSTR.out, List.drop_drop, HQ.out]
       cases rdStr m2 n2 (bs.drop q) with
       | error c => rfl
       | ok x =>
        obtain ⟨s1, v1⟩ := x
        dsimp only
        cases rdParts m2 f' ((bs.drop q).drop v1) with
        | error c => rfl
        | ok y => rfl)
      clear HREL HOK HEND hbad HSTR
      have hb5 := below1 w4 (.cells (cH m2 n2 wd2) 56)
      have HG5 := Lib.hid (Is.new w4 (cH m2 n2 wd2) 56)
      have lA4 := HP4.out.lt; have lR4 := HR4.out.lt; have lM4 := HM4.out.lt; have lV4 := HV4.out.lt
      have HP5 := Lib.hid (HP4.out.below hb5 lA4)
      have HR5 := Lib.hid (HR4.out.below hb5 lR4)
      have HM5 := Lib.hid (HM4.out.below hb5 lM4)
      have HV5 := Lib.hid (HV4.out.below hb5 lV4)
      have HO5 := Lib.hid (HO4.out.fwd EByte.elem hb5 (Nat.le_refl _))
      have HE5 := Lib.hid (HE4.out.step (hb5.mono (Nat.le_of_lt lA4)))
      have HK5 := Lib.hid (Kp.grow HK4.out (hb5.mono (Kp.size HK4.out)) (Nat.le_of_lt hlA))
      clear HP4 HR4 HM4 HK4 HV4 HO4 HE4 hb5
      go_upto_region 10 with (fail)
      obtain ⟨G, hG⟩ : ∃ G, w4.heap.size = G := ⟨_, rfl⟩
      rw [hG] at HG5
      have hVG : V < G := by omega
      try rw [hG]
      generalize w4.alloc (.cells (cH m2 n2 wd2) 56) = w5 at *
      clear hG lA4 lR4 lM4 lV4
      have lA5 := HP5.out.lt; have lM5 := HM5.out.lt; have lG5 := HG5.out.lt
      obtain ⟨z0, z1, z2⟩ := HP5.out.1.cells3
      obtain ⟨g0, g1, g2⟩ := HG5.out.cells3
      obtain ⟨m0, m1, m2'⟩ := HM5.out.cells3
      have hbb : (m2 != m2) = false := by simp
      have hbw : (wd2 == -1) = false := by simpa using hw1
      go_wp2_with fail
      refine (impl_tbytes A a cap bs q m2 n2 wd2 _ HP5.out (by omega) hq2 hlen hn2 HE5.out).mono ?_
      rintro e w6 (⟨s1, v1, hok, rfl, hsl1, hpv, ht6, hk6⟩ | ⟨herr, rfl, ht6, hk6⟩)
      ·have HREL3 := Lib.hid (show (match partsS m2 f' (bs.drop (q + v1)) with | .error c => (.error c : Except Int (T × Nat)) | .ok (S, v) => .ok (.mk kd 0 0 ((O ++ strOfNums s1) ++ S) [], (q + v1 - p) + v)) = L from by
        rw [← HREL2.out, hok]
        unfold partsS
        dsimp only
        rw [List.drop_drop]
        cases rdParts m2 f' (bs.drop (q + v1)) with
        | error c => rfl
        | ok y =>
         obtain ⟨s2, v2⟩ := y
         dsimp only
         rw [strOfNums_app, ByteArray.append_assoc, show s - p + (u + v1 + v2) = q + v1 - p + v2 from by have := HQ.out; omega])
       have HSS := Lib.hid (show (strOfNums s1).size = v1 from by
        rw [strOfNums_size]
        unfold rdStr at hok
        repeat' split at hok
        all_goals first | (cases hok; done) | (cases hok; rw [List.length_take, List.length_drop]; have := hn2.1; rename_i h1 h2; rw [List.length_drop] at h1; omega) | skip)
       clear HREL2 hok
       have HV6 := Lib.hid (hk6.is HV5.out (by omega))
       have HR6 := Lib.hid (hk6.is HR5.out (by omega))
       have HM6 := Lib.hid (hk6.is HM5.out (by omega))
       have HO6 := Lib.hid (HO5.out.kpB EByte.elem hk6 (by omega))
       have HK6 := Lib.hid (HK5.out.trans hk6)
       have HE6 := Lib.hid (HE5.out.step hk6.1)
       have HP6 := Lib.hid ht6
       clear hk6 ht6 HP5 HV5 HR5 HM5 HO5 HK5 HE5 z0 z1 z2 g0 g1 g2 m0 m1 m2' HG5 lA5 lM5 lG5
       generalize hS : strOfNums s1 = S at *
       have hSz := HSS.out
       have lV6 := HV6.out.lt
       go_wp2_with (at_builtin; refine wpList_appStr rfl _ _ 22 9 rfl Tryz.underlying22 Tryz.underlying9 info_Byte2 (V + 1) ao co (byteL O) (byteL_u8 O) (by first | rfl | (rw [hbl]; rfl)) HO6.out (by omega) S rfl (by rw [hbl]; omega) ?_; intro ar2 cr2 w7 happ7 hb7 hout7 hsz7; have HP7 := Lib.hid (HP6.out.below hb7 (by omega)); obtain ⟨z0, z1, z2⟩ := HP7.out.1.cells3)
       have HV7 := Lib.hid (HV6.out.below hb7 (by omega))
       have HR7 := Lib.hid (HR6.out.below hb7 (by omega))
       have HM7 := Lib.hid (HM6.out.below hb7 (by omega))
       have HK7 := Lib.hid (Kp.grow HK6.out (hb7.mono (by omega)) (Nat.le_of_lt hlA))
       have HE7 := Lib.hid (HE6.out.step (hb7.mono (by omega)))
       go_roundw
       case rel => exact ⟨q + v1, f', O ++ S, ar2, cr2, by rw [byteL_append, List.length_append, hbl], by omega, hpv, by omega, by rw [ByteArray.size_append]; omega, Lib.hid (by rw [byteL_append]; exact happ7), HP7, HV7, HR7, HM7, HK7, HE7, HREL3⟩
       case measure => rw [HP7.out.pos, HPOS.out]; omega
      ·have HLE := Lib.hid (show L = .error 1 from by rw [← HREL2.out, herr])
       clear HREL2 herr
       have HR6 := Lib.hid (hk6.is HR5.out (by omega))
       have HO6 := Lib.hid (HO5.out.kpB EByte.elem hk6 (by omega))
       have HK6 := Lib.hid (HK5.out.trans hk6)
       have HP6 := Lib.hid ht6
       have hV6 := (hk6.is HV5.out (by omega)).lt
       clear hk6 ht6 HP5 HV5 HR5 HM5 HO5 HK5 HE5 z0 z1 z2 g0 g1 g2 m0 m1 m2' HG5 lA5 lM5 lG5
       go_wp2_with (at_builtin; refine wpList_appStr rfl _ _ 22 9 rfl Tryz.underlying22 Tryz.underlying9 info_Byte2 (V + 1) ao co (byteL O) (byteL_u8 O) (by first | rfl | (rw [hbl]; rfl)) HO6.out (by omega) ⟨#[]⟩ rfl (by rw [hbl]; have h0 : (⟨#[]⟩ : ByteArray).size = 0 := rfl; omega) ?_; intro ar2 cr2 w7 happ7 hb7 hout7 hsz7; have HP7 := Lib.hid (HP6.out.below hb7 (by omega)); obtain ⟨z0, z1, z2⟩ := HP7.out.1.cells3; have p8 := HR6.out.below hb7 (by omega); have f8 := (fun i => p8.frozen i); have l8 := p8.lt; obtain ⟨o0, o1, o2, o3, o4⟩ := p8.cells5)
       obtain ⟨e0, e1, e2, e3, e4, hbel, hold, hsz⟩ := out5 p8.blk (.int .i64 0) (.int .i64 0) (.int .i64 0) (.string ⟨#[]⟩) (.slice none 0 0) R (Nat.le_refl _)
       refine bodyPost_ret (v := .agg zV) (by simp [results, Tryz.results155, go_sem, e0, e1, e2, e3, e4]) rfl (TdO.fail HLE.out (Or.inl rfl) (HP7.out.below hbel (by omega)) (Kp.grow (Kp.grow HK6.out (hb7.mono (by omega)) (Nat.le_of_lt hlA)) (hbel.mono (by omega)) (by omega)))
    ·have hc := rdH_err herr
     have HLE := Lib.hid (show L = .error c from by rw [← HREL.out]; unfold partsS; rw [rdParts_head HEND.out herr])
     have hcb : (c == 0) = false := by simp; omega
     have hcb2 : (c != 0) = true := by simp; omega
     have HC := Lib.hid hc
     clear herr HREL HEND hc
     have hb5 := below1 w4 (.cells (cH 0 0 0) 56)
     have lA4 := HP4.out.lt; have lR4 := HR4.out.lt
     have HP5 := Lib.hid (HP4.out.below hb5 lA4)
     have HR5 := Lib.hid (HR4.out.below hb5 lR4)
     have HK5 := Lib.hid (Kp.grow HK4.out (hb5.mono (Kp.size HK4.out)) (Nat.le_of_lt hlA))
     clear HP4 HR4 HM4 HK4 HV4 HO4 HE4 hb5
     go_upto_region 10 with (fail)
     obtain ⟨G, hG⟩ : ∃ G, w4.heap.size = G := ⟨_, rfl⟩
     try rw [hG]
     generalize w4.alloc (.cells (cH 0 0 0) 56) = w5 at *
     clear hG lA4 lR4
     have lA5 := HP5.out.lt
     obtain ⟨z0, z1, z2⟩ := HP5.out.1.cells3
     have p8 := HR5.out
     have f8 := fun i => p8.frozen i
     have l8 := p8.lt
     obtain ⟨o0, o1, o2, o3, o4⟩ := p8.cells5
     go_wp2_with fail
     obtain ⟨e0, e1, e2, e3, e4, hbel, hold, hsz⟩ := out5 p8.blk (.int .i64 0) (.int .i64 0) (.int .i64 0) (.string ⟨#[]⟩) (.slice none 0 0) R (Nat.le_refl _)
     refine bodyPost_ret (v := .agg zV) (by simp [results, Tryz.results155, go_sem, e0, e1, e2, e3, e4]) rfl (TdO.fail HLE.out HC.out (HP5.out.below hbel (by omega)) (Kp.grow HK5.out (hbel.mono (by omega)) (by omega)))
end Go.Proofs.YtggdenkmohnijaaGreatDoor
