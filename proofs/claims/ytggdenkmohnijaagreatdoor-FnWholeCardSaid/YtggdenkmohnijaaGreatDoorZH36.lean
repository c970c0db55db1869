/- Texts of this proof, merged: Rdr49, RdrI, PkL. No condition beyond what each theorem states. -/
import Derived.Test.YtggdenkmohnijaaGreatDoorZH34
import Derived.Test.YtggdenkmohnijaaGreatDoorZH35
set_option linter.unusedSimpArgs false
set_option linter.unnecessarySimpa false
namespace Go.Proofs.YtggdenkmohnijaaGreatDoor
open Go.ChangeShapes Go.WideShapes Go.ChangeAt Go.RowKit Go.Joins
set_option linter.unusedVariables false
set_option maxRecDepth 100000
set_option maxHeartbeats 16000000 in
theorem pv_49 (A : Nat) (a : Option Addr) (cap : Nat) (bs : List Int) (hlen : bs.length ≤ 1073741824) (d : Nat) (ih : ∀ (deep : Int) (p : Nat) (w : World), deep.toNat = d → I64 deep → p ≤ bs.length → Pr w A a cap bs p 0 → Env A w → Calls Tryz.prog 104 #[.pointer (some ⟨A, 0, none⟩), .int .i64 deep] w fun e w' => RdO A a cap bs p w (rdP d (bs.drop p)) e w') (deep : Int) (p : Nat) (w : World) (hd : deep.toNat = d + 1) (hI : I64 deep) (hpl : p ≤ bs.length) (hp : Pr w A a cap bs p 0) (henv : Env A w) (k n : Int) (u : Nat) (hmr : markR (bs.drop p) = .ok (k, n, u)) (hsel : ¬ (k = 7 ∨ k = 8)) :
  Calls Tryz.prog 104 #[.pointer (some ⟨A, 0, none⟩), .int .i64 deep] w fun e w' => RdO A a cap bs p w (rdP (d + 1) (bs.drop p)) e w' := by
 have HMR := Lib.hid hmr; clear hmr
 have HSEL := Lib.hid hsel; clear hsel
 obtain ⟨hI0, hI1⟩ := hI
 have hlA := hp.lt
 have IH := Lib.hid ih; clear ih
 have HENV := Lib.hid henv; clear henv
 have HP := Lib.hid (hp.below (below1 w (.cells zV 26)) hlA)
 have HI := Lib.hid (Is.new w zV 26)
 have HK := Lib.hid (Kp.alloc (w := w) (Nat.le_of_lt hlA) (.cells zV 26))
 have HBL := Lib.hid (below1 w (.cells zV 26))
 have hdz : ¬ deep < 1 := by omega
 have hd1 : (deep - 1).toNat = d := by omega
 have HD1 := Lib.hid hd1; clear hd1 hd
 have HU := Lib.hid (fun x (hx : x ∈ bs.drop p) => hp.2.u8 x (List.mem_of_mem_drop hx))
 obtain ⟨hlc, hcap⟩ := hp.2.len
 clear hp
 obtain ⟨L, hL⟩ : ∃ L, rdP (d + 1) (bs.drop p) = L := ⟨_, rfl⟩
 rw [hL]
 have HL := Lib.hid hL; clear hL
 have HGM := Lib.hid (getM_markR bs p hpl)
 go_enter Tryz.func104, Tryz.ntmps104
 go_upto_region 3 with (fail)
 have hs1 : (w.alloc (.cells zV 26)).heap.size = w.heap.size + 1 := by simp
 obtain ⟨R, hR⟩ : ∃ R, w.heap.size = R := ⟨_, rfl⟩
 generalize hW1 : w.alloc (.cells zV 26) = w1 at *
 have hRA : A < R := by omega
 have hA1 : A < w1.heap.size := HP.out.lt
 have hR1 : R < w1.heap.size := by omega
 clear hs1
 rw [hR]
 obtain ⟨z0, z1, z2⟩ := HP.out.1.cells3
 obtain ⟨G, hG⟩ : ∃ G, getM bs (p : Int) = G := ⟨_, rfl⟩
 rw [hG] at HGM
 have HG := Lib.hid hG; clear hG hW1
 go_cut [5, 6, 7] (fun mv ev cv wx => ∃ M, mv = .pointer (some ⟨M, 0, none⟩) ∧ ev = .int .i64 G.2.1 ∧ cv = .int .i64 G.2.2 ∧ w1.heap.size ≤ M ∧ Hid (Is wx M 87 (cM G.1.1 G.1.2)) ∧ Hid (Below w1.heap.size w1 wx))
 case first =>
  refine tkW (w1.heap.size) w1 (fun hHeld => ?_)
  refine tkS 0 18 rfl ?_
  refine tkS 1 19 rfl ?_
  refine tkS 2 20 rfl ?_
  refine tkS 3 21 rfl ?_
  refine tkS 4 22 rfl ?_
  refine tkS 5 23 rfl ?_
  refine tkS 6 24 rfl ?_
  refine tkS 7 25 rfl ?_
  refine tkR [8, 13] ?_
  refine tkC 26 rfl (fun K hK => ?_) ?_
  focus (go_simp; (first | (go_at_call 166; refine (impl_GetMark bs a cap A (p : Int) _ (HP.out.2.below EByte.loc (‹_ ∧ Below (w1.heap.size) w1 _›).2 (Nat.le_of_lt hA1)) (by have := (‹_ ∧ Below (w1.heap.size) w1 _›).2.size; omega) ⟨by omega, by omega⟩ (by omega)).mono ?_; rintro e w2 ⟨rfl, hb2⟩; have hq0 := (‹_ ∧ Below (w1.heap.size) w1 _›).2.size; have hq1 := hb2.size; (try simp only [World.size_drew, size_alloc] at hq0 hq1); (try (have hm2 : Is w2 w1.heap.size 87 (cM 0 0) := (Is.new w1.drew (cM 0 0) 87).below hb2 (by simp); have fm := (fun i => hm2.frozen i); have lm := hm2.lt; obtain ⟨m0, m1⟩ := hm2.cells2)); rw [HG.out])); go_wp2_with fail; refine tkK hK (fun hHeld => ?_); clear hK K)
  refine tkS 9 17 rfl ?_
  refine tkS 10 27 rfl ?_
  refine tkS 11 28 rfl ?_
  refine tkS 12 29 rfl ?_
  refine tkA 13 5 rfl (fun K hK => ?_)
  focus (go_simp; go_wp2_with fail; refine tkK hK (fun hHeld => ?_) (hS := (kpA (by assumption))); clear hK K)
  refine tkB 14 rfl (fun K hK => ?_)
  focus (go_simp; go_wp2_with fail; refine tkK hK (fun hHeld => ?_) (hS := (by first | exact kpA (by assumption) | (clear hHeld; exact kpA (by assumption)))); clear hK K)
  refine tkS 15 6 rfl ?_
  refine tkS 16 7 rfl ?_
  refine tkE ?_
  rotate_left 1
  refine tkC 5 rfl (fun K hK => ?_) AllReadyH.nil
  focus (go_simp; go_wp2_with fail; refine tkK hK (fun hHeld => ?_) (hS := (kpA (by assumption))); clear hK K)
  refine tkA 8 26 rfl (fun K hK => ?_)
  focus (go_simp; (first | (go_at_call 166; refine (impl_GetMark bs a cap A (p : Int) _ (HP.out.2.below EByte.loc (‹_ ∧ Below (w1.heap.size) w1 _›).2 (Nat.le_of_lt hA1)) (by have := (‹_ ∧ Below (w1.heap.size) w1 _›).2.size; omega) ⟨by omega, by omega⟩ (by omega)).mono ?_; rintro e w2 ⟨rfl, hb2⟩; have hq0 := (‹_ ∧ Below (w1.heap.size) w1 _›).2.size; have hq1 := hb2.size; (try simp only [World.size_drew, size_alloc] at hq0 hq1); (try (have hm2 : Is w2 w1.heap.size 87 (cM 0 0) := (Is.new w1.drew (cM 0 0) 87).below hb2 (by simp); have fm := (fun i => hm2.frozen i); have lm := hm2.lt; obtain ⟨m0, m1⟩ := hm2.cells2)); rw [HG.out])); go_wp2_with fail; refine tkK hK (fun hHeld => ?_); clear hK K)
  refine tkS 9 17 rfl ?_
  refine tkS 10 27 rfl ?_
  refine tkS 11 28 rfl ?_
  refine tkS 12 29 rfl ?_
  refine tkB 14 rfl (fun K hK => ?_)
  focus (go_simp; go_wp2_with fail; refine tkK hK (fun hHeld => ?_) (hS := (by exact keep_step (by assumption) (below2s _ _ _ _) (by omega))); clear hK K)
  refine tkS 15 6 rfl ?_
  refine tkS 16 7 rfl ?_
  refine tkE ?_
  all_goals
   have hcu := (‹_ ∧ Below (w1.heap.size) w1 _›).2
   go_wp2_with fail
   go_meet
   case rel => first | exact ⟨w1.heap.size, rfl, rfl, rfl, Nat.le_refl _, Lib.hid ((hm2.set 0 _).set 1 _), Lib.hid hcu⟩ | exact ⟨w2.heap.size, rfl, rfl, rfl, by omega, Lib.hid (Is.new w2 _ _), Lib.hid hcu⟩
 case rest =>
  clear z0 z1 z2
  obtain ⟨M, rfl, rfl, rfl, hM1, HM, HBX⟩ := hcut
  rename World => wx
  have HPX := Lib.hid (HP.out.below HBX.out hA1)
  have HIX := Lib.hid (show Is wx R 26 zV from hR ▸ (HI.out.below HBX.out (by omega)))
  have HKX := Lib.hid (HK.out.grow (HBX.out.mono (by have := HK.out.size; omega)) (by omega))
  have HEX := Lib.hid ((HENV.out.step (HK.out.1)).step (HBX.out.mono (Nat.le_of_lt hA1)))
  clear HP HI HBL HENV HG
  have hmr := HMR.out
  have hmi := markR_in HU.out hmr
  have hLL := HL.out
  rw [rdP, hmr] at hLL
  dsimp only at hLL
  have HLL := Lib.hid hLL; clear hLL
  obtain rfl : G = ((k, n), (p : Int) + u, 0) := by rw [HGM.out, hmr]
  clear HL HGM hmr HMR
  dsimp only at HM ⊢
  obtain ⟨⟨hu1, hu2⟩, ⟨hn0, hn1⟩, hk⟩ := hmi
  rw [List.length_drop] at hu2
  have HK9 := Lib.hid hk; clear hk
  obtain ⟨q, hq⟩ : ∃ q, p + u = q := ⟨_, rfl⟩
  have hqi : (p : Int) + (u : Int) = (q : Int) := by omega
  have hql : q ≤ bs.length := by omega
  have HQ := Lib.hid hq; clear hq
  rw [hqi]
  have HPQ := Lib.hid (HPX.out.at (q : Int))
  have hMA : A < M := by omega
  have hMR : R < M := by omega
  have HMQ := Lib.hid (HM.out.miss A 1 (by omega) (.int .i64 (q : Int)))
  have HIQ := Lib.hid (HIX.out.miss A 1 (by omega) (.int .i64 (q : Int)))
  have HKQ := Lib.hid (HKX.out.trans (Kp.cell (A := A) (w := wx) 1 (.int .i64 (q : Int))))
  have HEQ := Lib.hid (HEX.out.step (Kp.cell (A := A) (w := wx) 1 (.int .i64 (q : Int))).1)
  have ff := fun i => HPX.out.1.frozen i
  obtain ⟨z0, z1, z2⟩ := HPX.out.1.cells3
  have hAx : A < wx.heap.size := HPX.out.lt
  go_upto_region 7 with (fail)
  have hAq : A < (wx.setCell ⟨A, 1, none⟩ (.int .i64 (q : Int))).heap.size := HPQ.out.lt
  have hMq : M < (wx.setCell ⟨A, 1, none⟩ (.int .i64 (q : Int))).heap.size := HMQ.out.lt
  have hRq : R < (wx.setCell ⟨A, 1, none⟩ (.int .i64 (q : Int))).heap.size := HIQ.out.lt
  clear ff z0 z1 z2 hAx HPX HIX HM HKX HEX
  generalize wx.setCell ⟨A, 1, none⟩ (.int .i64 (q : Int)) = wq at *
  obtain ⟨m0, m1⟩ := HMQ.out.cells2
  refine tkW (wq.heap.size) wq (fun hHeld => ?_)
  refine tkS 0 39 rfl ?_
  refine tkS 1 40 rfl ?_
  refine tkS 2 41 rfl ?_
  refine tkS 3 42 rfl ?_
  refine tkS 4 43 rfl ?_
  refine tkA 5 8 rfl (fun K hK => ?_)
  go_simp; go_wp2_with fail; refine tkK hK (fun hHeld => ?_) (hS := (kpA (by assumption))); clear hK K
  refine tkB 6 rfl (fun K hK => ?_)
  focus (go_simp; go_wp2_with fail; refine tkK hK (fun hHeld => ?_) (hS := (by first | exact kpA (by assumption) | (clear hHeld; exact kpA (by assumption)))); clear hK K)
  refine tkS 7 9 rfl ?_
  refine tkE ?_
  clear hHeld
  clear m0 m1
  obtain ⟨V, hV⟩ : ∃ V, wq.heap.size = V := ⟨_, rfl⟩
  have HBV := Lib.hid (show Below wq.heap.size wq (wq.alloc (.cells #[Value.int IntKind.i64 k, Value.int IntKind.i64 0, Value.int IntKind.i64 0, Value.string ⟨#[]⟩, Value.slice none 0 0] 26)).drew from (below1 wq _).drew)
  have HVV := Lib.hid (show Is (wq.alloc (.cells #[Value.int IntKind.i64 k, Value.int IntKind.i64 0, Value.int IntKind.i64 0, Value.string ⟨#[]⟩, Value.slice none 0 0] 26)).drew V 26 #[Value.int IntKind.i64 k, Value.int IntKind.i64 0, Value.int IntKind.i64 0, Value.string ⟨#[]⟩, Value.slice none 0 0] from hV ▸ (Is.new wq #[Value.int IntKind.i64 k, Value.int IntKind.i64 0, Value.int IntKind.i64 0, Value.string ⟨#[]⟩, Value.slice none 0 0] 26).agree rfl)
  have HMV := Lib.hid (HMQ.out.below HBV.out hMq)
  have HPV := Lib.hid (HPQ.out.below HBV.out hAq)
  have HIV := Lib.hid (HIQ.out.below HBV.out hRq)
  have HKV := Lib.hid (Kp.grow HKQ.out (HBV.out.mono (Kp.size HKQ.out)) (Nat.le_of_lt hlA))
  have HEV := Lib.hid (HEQ.out.step (HBV.out.mono (Nat.le_of_lt hAq)))
  have hMV : M < V := by omega
  have hAV : A < V := by omega
  have hRV : R < V := by omega
  have hwR : w.heap.size ≤ R := by omega
  try rw [hV]
  clear HBV
  generalize (wq.alloc (.cells #[Value.int IntKind.i64 k, Value.int IntKind.i64 0, Value.int IntKind.i64 0, Value.string ⟨#[]⟩, Value.slice none 0 0] 26)).drew = wv at *
  clear HMQ HPQ HIQ HKQ HEQ hAq hMq hRq hV hR
  obtain ⟨m0, m1⟩ := HMV.out.cells2
  obtain ⟨v0, v1, v2, v3, v4⟩ := HVV.out.cells5
  obtain ⟨r0, r1, r2, r3, r4⟩ := HIV.out.cells5
  have fv := fun i => HVV.out.frozen i
  have fr := fun i => HIV.out.frozen i
  have lM := HMV.out.lt; have lV := HVV.out.lt; have lR := HIV.out.lt
  have hltA := HPV.out.lt
  by_cases hk4 : k = 4
  ·skip
   subst hk4
   have HLE := Lib.hid (show L = .ok (.mk 4 (bitsFltD n).1.1 (bitsFltD n).1.2 ⟨#[]⟩ [], u) from by rw [← HLL.out, if_pos rfl])
   have HI2 := Lib.hid (bitsFltD_i64 n)
   clear HLL
   go_wp2_with fail
   refine (impl_BitsFlt n _ ⟨hn0, hn1⟩).mono ?_
   rintro e w3 ⟨rfl, hb3⟩
   obtain ⟨⟨⟨m, x⟩, ok⟩, hbf⟩ : ∃ r, bitsFltD n = r := ⟨_, rfl⟩
   rw [hbf] at HLE HI2 ⊢
   dsimp only at HLE HI2 ⊢
   clear hbf
   have hs3 := hb3.size
   have HV3 := Lib.hid (HVV.out.below hb3 lV)
   have HI3 := Lib.hid (HIV.out.below hb3 lR)
   have HP3 := Lib.hid (HPV.out.below hb3 hltA)
   have HK3 := Lib.hid (Kp.grow HKV.out (hb3.mono (Kp.size HKV.out)) (Nat.le_of_lt hlA))
   clear fv fr v0 v1 v2 v3 v4 r0 r1 r2 r3 r4 m0 m1 hb3
   go_upto_region 13 with (fail)
   have HF4 := Lib.hid (Is.new w3 (cF m x) 61)
   have HV4 := Lib.hid (HV3.out.alloc (.cells (cF m x) 61))
   have HI4 := Lib.hid (HI3.out.alloc (.cells (cF m x) 61))
   have HP4 := Lib.hid (HP3.out.below (below1 w3 (.cells (cF m x) 61)) HP3.out.lt)
   have HK4 := Lib.hid (HK3.out.trans (Kp.alloc (Nat.le_of_lt HP3.out.lt) (.cells (cF m x) 61)))
   obtain ⟨F, hF⟩ : ∃ F, w3.heap.size = F := ⟨_, rfl⟩
   rw [hF] at HF4
   have hVF : V < F := by omega
   try rw [hF]
   generalize w3.alloc (.cells (cF m x) 61) = w4 at *
   clear HV3 HI3 HP3 HK3 hF hs3
   obtain ⟨c0, c1⟩ := HF4.out.cells2
   obtain ⟨v0, v1, v2, v3, v4⟩ := HV4.out.cells5
   have fv := fun i => HV4.out.frozen i
   have lV4 := HV4.out.lt; have lF4 := HF4.out.lt
   go_region
   have HV5 := Lib.hid (((HV4.out.set 1 (.int .i64 m)).set 2 (.int .i64 x)).agree (w' := ((w4.setCell ⟨V, 1, none⟩ (.int .i64 m)).setCell ⟨V, 2, none⟩ (.int .i64 x)).drew) rfl)
   have HI5 := Lib.hid (((HI4.out.miss V 1 (by omega) (.int .i64 m)).miss V 2 (by omega) (.int .i64 x)).agree (w' := ((w4.setCell ⟨V, 1, none⟩ (.int .i64 m)).setCell ⟨V, 2, none⟩ (.int .i64 x)).drew) rfl)
   have HP5 := Lib.hid (((HP4.out.miss V 1 (by omega) (.int .i64 m)).miss V 2 (by omega) (.int .i64 x)).below ((Below.refl (A + 1) _).drew) (by omega))
   have HK5 := Lib.hid ((Kp.set (g := V) (Kp.set (g := V) HK4.out (by omega) (by omega) 1 (.int .i64 m)) (by omega) (by omega) 2 (.int .i64 x)).trans (show Kp A _ (((w4.setCell ⟨V, 1, none⟩ (.int .i64 m)).setCell ⟨V, 2, none⟩ (.int .i64 x)).drew) from ⟨(Below.refl _ _).drew, fun _ _ _ => rfl⟩))
   clear v0 v1 v2 v3 v4 c0 c1 fv lV4 lF4 HF4
   generalize ((w4.setCell ⟨V, 1, none⟩ (.int .i64 m)).setCell ⟨V, 2, none⟩ (.int .i64 x)).drew = w5 at *
   obtain ⟨v0, v1, v2, v3, v4⟩ := HV5.out.cells5
   obtain ⟨r0, r1, r2, r3, r4⟩ := HI5.out.cells5
   have fr := fun i => HI5.out.frozen i
   have lV5 := HV5.out.lt; have lR5 := HI5.out.lt
   go_wp2_with fail
   obtain ⟨e0, e1, e2, e3, e4, hbel, hold, hsz⟩ := out5 HI5.out.blk (.int .i64 4) (.int .i64 m) (.int .i64 x) (.string ⟨#[]⟩) (.slice none 0 0) R (Nat.le_refl _)
   refine bodyPost_ret (v := .agg #[.int .i64 4, .int .i64 m, .int .i64 x, .string ⟨#[]⟩, .slice none 0 0]) (by simp [results, Tryz.results104, go_sem, e0, e1, e2, e3, e4]) rfl (Or.inl ⟨_, u, none, 0, HLE.out, rfl, wfK2 HI2.out.1 HI2.out.2, by have := HQ.out; omega, ?_, App.nil _ _ _, Kp.grow HK5.out (hbel.mono (by omega)) (by omega)⟩)
   rw [HQ.out]
   exact HP5.out.below hbel hRA
  have hk78 := HSEL.out
  by_cases hk9 : k = 9 ∨ k = 10
  ·obtain ⟨m, rfl⟩ : ∃ m : Nat, n = m := ⟨n.toNat, by have := HK9.out; omega⟩
   have hm : m ≤ 65535 := by have := HK9.out; omega
   have c4 : (k == 4) = false := by simpa using hk4
   have c7 : (k == 7) = false := by simp; omega
   have c8 : (k == 8) = false := by simp; omega
   have hLL := HLL.out
   rw [if_neg hk4, if_neg hk78, if_pos hk9, Int.toNat_natCast, List.drop_drop, HQ.out] at hLL
   obtain ⟨N, hN⟩ : ∃ N, (if k = 10 then 2 * m else m) = N := ⟨_, rfl⟩
   rw [hN] at hLL
   have HLN := Lib.hid hLL; clear hLL HLL
   have hN2 : N ≤ 131070 := by rw [← hN]; split <;> omega
   have HWK := Lib.hid (show ∀ ts : List T, Wf (.mk k 0 0 ⟨#[]⟩ ts) from fun ts => ⟨by show I64 k; exact ⟨by omega, by omega⟩, by show I64 0; exact ⟨by decide, by decide⟩, by show I64 0; exact ⟨by decide, by decide⟩, by show (⟨#[]⟩ : ByteArray).size ≤ maxLen; exact Nat.zero_le _⟩)
   have hsV : V < wv.heap.size := lV
   clear hk4 hk78
   have HIHD := Lib.hid (fun (s : Nat) (W : World) (hs : s ≤ bs.length) (hp : Pr W A a cap bs s 0) (he : Env A W) => IH.out (deep - 1) s W HD1.out ⟨by omega, by omega⟩ hs hp he)
   rcases hk9 with h9 | h9
   (have c10 : (k == 10) = false := by simp; omega); (have c9 : (k == 9) = true := by simpa using h9); (have hmi : N = m := by rw [← hN, if_neg (by omega)]); clear hN h9; try (subst hmi)
   rotate_left
   (have c10 : (k == 10) = true := by simpa using h9); (have hmi : (m : Int) * 2 = (N : Int) := by rw [← hN, if_pos h9]; omega); clear hN h9
   all_goals
    go_wp2_with fail
    go_loopw [12, 129] (fun _ iv wr => ∃ (j s : Nat) (ts : List T) (ar : Option Addr) (cr : Nat), j ≤ N ∧ iv = .int .i64 j ∧ ts.length = j ∧ q ≤ s ∧ s ≤ bs.length ∧ Pr wr A a cap bs s 0 ∧ Is wr V 26 #[.int .i64 k, .int .i64 0, .int .i64 0, .string ⟨#[]⟩, .slice ar j cr] ∧ App TV 5 26 True wr (V + 1) wr.heap.size ar cr ts ∧ Is wr R 26 zV ∧ Kp A w wr ∧ Env A wr ∧
     rdMany (rdP d) N (bs.drop q) = (match rdMany (rdP d) (N - j) (bs.drop s) with | .error c => .error c | .ok (ts2, v) => .ok (ts ++ ts2, (s - q) + v))) (fun _ iv _ => N - (intOf iv).toNat)
    case atStart => exact ⟨0, q, [], none, 0, Nat.zero_le _, rfl, rfl, Nat.le_refl _, hql, HPV.out, HVV.out, App.nil _ _ _, HIV.out, HKV.out, HEV.out, by
     rw [Nat.sub_zero]; cases rdMany (rdP d) N (bs.drop q) with
     | error c => rfl
     | ok x => obtain ⟨ts, v⟩ := x; simp⟩
    case round =>
     obtain ⟨j, s, ts, ar, cr, hj, rfl, htl, hqs, hsl, hpr, hvr, happ, hir, hkr, her, hrel2⟩ := hrel
     try clear hmi
     have HP0 := Lib.hid hpr; have HV0 := Lib.hid hvr; have HA0 := Lib.hid happ; have HI0 := Lib.hid hir; have HK0 := Lib.hid hkr; have HE0 := Lib.hid her; have HREL := Lib.hid hrel2; have HTL := Lib.hid htl
     clear hpr hvr happ hir hkr her hrel2 htl v0 v1 v2 v3 v4 r0 r1 r2 r3 r4 m0 m1 fv fr lV lM lR hltA
     have hVr : V < wr.heap.size := HV0.out.lt
     have hRr : R < wr.heap.size := HI0.out.lt
     have hAr : A < wr.heap.size := HP0.out.lt
     by_cases hlt : j < N
     ·have hltz : (j : Int) < (N : Int) := by omega
      have hNj : N - j = (N - (j + 1)) + 1 := by omega
      have HNJ := Lib.hid hNj; clear hNj
      go_wp2_with fail
      refine (HIHD.out s wr hsl HP0.out HE0.out).mono ?_
      rintro e w2 (⟨t, u2, a3, cap3, hok, rfl, hwf, hul, hp2, happ2, hk2⟩ | ⟨c, s2, herr, hc, rfl, hp2, hk2⟩)
      ·skip
       have hs2 := hk2.size
       have HWT := Lib.hid hwf; clear hwf
       have HRN := Lib.hid (show rdMany (rdP d) N (bs.drop q) = (match rdMany (rdP d) (N - (j + 1)) (bs.drop (s + u2)) with | .error c => .error c | .ok (ts2, v) => .ok ((ts ++ [t]) ++ ts2, ((s + u2) - q) + v)) from by
        rw [HREL.out, HNJ.out, rdMany, hok]
        dsimp only
        rw [List.drop_drop]
        cases rdMany (rdP d) (N - (j + 1)) (bs.drop (s + u2)) with
        | error c => rfl
        | ok x =>
         obtain ⟨ts2, v⟩ := x
         dsimp only
         rw [List.append_assoc, List.singleton_append, show s - q + (u2 + v) = s + u2 - q + v from by omega])
       clear hok
       have HP2 := Lib.hid hp2
       have HV2 := Lib.hid (hk2.is HV0.out (by omega))
       have HI2 := Lib.hid (hk2.is HI0.out (by omega))
       have HA2 := Lib.hid (HA0.out.kp TV.elem hk2 (by omega) (Nat.le_refl _))
       have HK2 := Lib.hid (HK0.out.trans hk2)
       have HE2 := Lib.hid (HE0.out.step hk2.1)
       obtain ⟨G, g1, g2, g3⟩ := Own.ow.2 happ2.own
       clear hp2 hk2 happ2
       have hV2 : V < w2.heap.size := HV2.out.lt
       have hA2 : A < w2.heap.size := HP2.out.lt
       have H2 := Lib.hid (below1 w2 (.cells (cV t a3 cap3) 26))
       have HN := Lib.hid ((HA2.out.below TV.elem H2.out (by omega)).below TV.elem (below1 (w2.alloc (.cells (cV t a3 cap3) 26)) (.cells (cV t a3 cap3) 26)) (by simp; omega))
       have HTV := Lib.hid (TV.box (w := w2.alloc (.cells (cV t a3 cap3) 26)) 26 (g1.agree (fun f hf => H2.out.block f (g3 f hf).2.2.lt)) HWT.out (fun f hf => by have := (g3 f hf).2.2.lt; simp; omega))
       have HG := Lib.hid (show ∀ f ∈ G, wr.heap.size ≤ f ∧ f < ((w2.alloc (.cells (cV t a3 cap3) 26)).alloc (.cells (cV t a3 cap3) 26)).heap.size ∧ Unf ((w2.alloc (.cells (cV t a3 cap3) 26)).alloc (.cells (cV t a3 cap3) 26)) f from fun f hf => ⟨(g3 f hf).1, by have := (g3 f hf).2.1; simp; omega, ((g3 f hf).2.2.alloc _).alloc _⟩)
       have HV4 := Lib.hid ((HV2.out.alloc (.cells (cV t a3 cap3) 26)).alloc (.cells (cV t a3 cap3) 26))
       have HI4 := Lib.hid ((HI2.out.alloc (.cells (cV t a3 cap3) 26)).alloc (.cells (cV t a3 cap3) 26))
       have HB4 := Lib.hid (show Below w2.heap.size w2 ((w2.alloc (.cells (cV t a3 cap3) 26)).alloc (.cells (cV t a3 cap3) 26)) from H2.out.trans ((below1 _ _).mono (by simp)))
       have HND := Lib.hid g2
       have ff := fun i => HV2.out.frozen i
       obtain ⟨v0, v1, v2, v3, v4⟩ := HV2.out.cells5
       obtain ⟨z0, z1, z2⟩ := HP2.out.1.cells3
       have htl2 := HTL.out
       clear g1 g2 g3
       go_wp2_with (at_builtin; refine wpList_app1 TV.elem rfl _ _ 24 rfl (.agg zV) 64 Tryz.underlying24 info_Val rfl (V + 1) wr.heap.size ar cr ts (by first | rfl | (rw [htl2]; rfl)) HN.out (by simp; omega) (by omega) (w2.heap.size + 1) 0 1 t G (by first | rfl | simp) (by first | exact HTV.out | (have := HTV.out; simpa using this)) HND.out HG.out (by rw [htl2]; unfold maxLen; omega) (by rw [htl2]; omega) ?_; intro ar2 cr2 w6 happ6 hb6 _; have hout4 := HV4.out.below hb6 (by omega); have ff4 := (fun i => hout4.frozen i); obtain ⟨p0, p1, p2, p3, p4⟩ := hout4.cells5)
       have hlt6 := hout4.lt
       have hb6' := hb6.mono (show A + 1 ≤ V + 1 from by omega)
       have hP6 := (HP2.out.below HB4.out hA2).below hb6' (by omega)
       have hI6 := HI4.out.below hb6 (by omega)
       have hK6 : Kp A w w6 := Kp.grow (Kp.grow HK2.out (HB4.out.mono (Kp.size HK2.out)) (Nat.le_of_lt hlA)) (hb6.mono (by omega)) (Nat.le_of_lt hlA)
       have hE6 := (HE2.out.step (HB4.out.mono (by omega))).step (hb6.mono (show A ≤ V + 1 from by omega))
       go_roundw
       case rel =>
        refine ⟨j + 1, s + u2, ts ++ [t], ar2, cr2, by omega, by go_num, by rw [List.length_append, htl2]; rfl, by omega, hul, hP6.miss V 4 (by omega) _, ?_, ?_, hI6.miss V 4 (by omega) _, Kp.set (g := V) hK6 (by omega) (by omega) 4 _, hE6.step ((Below.refl A _).setCell (p := ⟨V, 4, none⟩) (Nat.le_of_lt hAV) _), HRN.out⟩
        ·have hh := hout4.set 4 (.slice ar2 (j + 1) cr2)
         have hll : (ts ++ [t]).length = j + 1 := by rw [List.length_append, htl2]; rfl
         first | exact hh | (rw [hll]; exact hh) | (simpa [hll] using hh)
        ·rw [size_set]
         exact happ6.agree TV.elem (fun f hf _ => heap_miss _ _ _ _ (by omega) _)
       case measure => simp [intOf]; omega
      ·skip
       have HLE := Lib.hid (show L = .error c from by rw [← HLN.out, HREL.out, HNJ.out, rdMany, herr])
       have HP2 := Lib.hid hp2
       have HI2 := Lib.hid (hk2.is HI0.out (by omega))
       have HK2 := Lib.hid (HK0.out.trans hk2)
       have HC := Lib.hid hc
       have hcb : (c != 0) = true := by simp; omega
       have hR2 : R < w2.heap.size := HI2.out.lt
       have hA2 : A < w2.heap.size := HP2.out.lt
       clear hp2 hk2 herr hc HREL HNJ HTL HLN HIHD HWK HE0 HA0 HP0 HI0 HK0
       obtain ⟨z0, z1, z2⟩ := HP2.out.1.cells3
       have fr := fun i => HI2.out.frozen i
       obtain ⟨r0, r1, r2, r3, r4⟩ := HI2.out.cells5
       go_wp2_with fail
       have hI := (((((HI2.out.set 0 (.int .i64 0)).set 1 (.int .i64 0)).set 2 (.int .i64 0)).set 3 (.string ⟨#[]⟩)).set 4 (.slice none 0 0)).alloc (.cells zV 26)
       obtain ⟨e0, e1, e2, e3, e4⟩ := hI.cells5
       obtain ⟨_, _, _, _, _, hbel, hold, hsz⟩ := out5 HI2.out.blk (.int .i64 0) (.int .i64 0) (.int .i64 0) (.string ⟨#[]⟩) (.slice none 0 0) R (Nat.le_refl _)
       have hP8 := HP2.out.below hbel hRA
       refine bodyPost_ret (v := .agg zV) (by simp [results, Tryz.results104, go_sem, e0, e1, e2, e3, e4]) rfl (Or.inr ⟨c, s2, HLE.out, HC.out, rfl, hP8.below (below1 _ _) hP8.lt, (Kp.grow HK2.out (hbel.mono (by omega)) (Nat.le_of_lt hlA)).trans (Kp.alloc (Nat.le_of_lt hP8.lt) _)⟩)
     ·skip
      obtain rfl : j = N := by omega
      have hltz : ¬ (j : Int) < (j : Int) := by omega
      have HLE := Lib.hid (show L = .ok (.mk k 0 0 ⟨#[]⟩ ts, u + (s - q)) from by
       rw [← HLN.out, HREL.out, Nat.sub_self, rdMany]; simp)
      obtain ⟨v0, v1, v2, v3, v4⟩ := HV0.out.cells5
      obtain ⟨r0, r1, r2, r3, r4⟩ := HI0.out.cells5
      have fr := fun i => HI0.out.frozen i
      clear hlt hj HREL HLN HIHD HE0
      go_wp2_with fail
      obtain ⟨e0, e1, e2, e3, e4, hbel, hold, hsz⟩ := out5 HI0.out.blk (.int .i64 k) (.int .i64 0) (.int .i64 0) (.string ⟨#[]⟩) (.slice ar j cr) R (Nat.le_refl _)
      refine bodyPost_ret (v := .agg #[.int .i64 k, .int .i64 0, .int .i64 0, .string ⟨#[]⟩, .slice ar j cr]) (by simp [results, Tryz.results104, go_sem, e0, e1, e2, e3, e4]) rfl (Or.inl ⟨_, u + (s - q), ar, cr, HLE.out, ?_, HWK.out ts, by have := HQ.out; omega, ?_, ?_, Kp.grow HK0.out (hbel.mono (by omega)) (by omega)⟩)
      ·show Ending.returned (.agg #[.int .i64 k, .int .i64 0, .int .i64 0, .string ⟨#[]⟩, .slice ar j cr]) = .returned (.agg #[.int .i64 k, .int .i64 0, .int .i64 0, .string ⟨#[]⟩, .slice ar ts.length cr])
       rw [HTL.out]
      ·rw [show p + (u + (s - q)) = s from by have := HQ.out; omega]
       exact HP0.out.below hbel hRA
      ·rw [hsz]
       exact (HA0.out.agree TV.elem (fun f h1 h2 => hold f (by omega))).more (by omega) (Nat.le_refl _)
  ·skip
   have c4 : (k == 4) = false := by simpa using hk4
   have c7 : (k == 7) = false := by simp; omega
   have c8 : (k == 8) = false := by simp; omega
   have c9 : (k == 9) = false := by simp; omega
   have c10 : (k == 10) = false := by simp; omega
   have HLE := Lib.hid (show L = .ok (.mk k n 0 ⟨#[]⟩ [], u) from by rw [← HLL.out, if_neg hk4, if_neg hk78, if_neg hk9])
   have HWK := Lib.hid (show Wf (.mk k n 0 ⟨#[]⟩ []) from wfK' HK9.out ⟨hn0, hn1⟩)
   clear hk4 hk78 hk9 HLL
   go_wp2_with fail
   have hv := HVV.out.set 1 (.int .i64 n)
   have hi := HIV.out.miss V 1 (by omega) (.int .i64 n)
   have hp := HPV.out.miss V 1 (by omega) (.int .i64 n)
   have hkk := Kp.set (g := V) HKV.out (by omega) (by omega) 1 (.int .i64 n)
   obtain ⟨e0, e1, e2, e3, e4, hbel, hold, hsz⟩ := out5 hi.blk (.int .i64 k) (.int .i64 n) (.int .i64 0) (.string ⟨#[]⟩) (.slice none 0 0) R (Nat.le_refl _)
   refine bodyPost_ret (v := .agg #[.int .i64 k, .int .i64 n, .int .i64 0, .string ⟨#[]⟩, .slice none 0 0]) (by simp [results, Tryz.results104, go_sem, e0, e1, e2, e3, e4]) rfl (Or.inl ⟨_, u, none, 0, HLE.out, rfl, HWK.out, by have := HQ.out; omega, ?_, App.nil _ _ _, Kp.grow hkk (hbel.mono (by omega)) (by omega)⟩)
   rw [HQ.out]
   exact hp.below hbel hRA
set_option maxHeartbeats 16000000 in
theorem impl_pvalue (A : Nat) (a : Option Addr) (cap : Nat) (bs : List Int) (hlen : bs.length ≤ 1073741824) : ∀ d : Nat, ∀ (deep : Int) (p : Nat) (w : World), deep.toNat = d → I64 deep → p ≤ bs.length → Pr w A a cap bs p 0 → Env A w →
  Calls Tryz.prog 104 #[.pointer (some ⟨A, 0, none⟩), .int .i64 deep] w fun e w' => RdO A a cap bs p w (rdP d (bs.drop p)) e w' := by
 intro d
 induction d with
 | zero =>
  intro deep p w hd hI hpl hp _
  obtain ⟨hI0, hI1⟩ := hI
  have hlA := hp.lt
  have HP := Lib.hid (hp.below (below1 w (.cells zV 26)) hlA)
  have HI := Lib.hid (Is.new w zV 26)
  have HK := Lib.hid (Kp.alloc (w := w) (Nat.le_of_lt hlA) (.cells zV 26))
  have hdz : deep < 1 := by omega
  have HR := Lib.hid (show rdP 0 (bs.drop p) = .error 2 from rfl)
  rw [HR.out]
  clear hp hd
  go_enter Tryz.func104, Tryz.ntmps104
  go_wp2_with fail
  refine (impl_pfail A a cap bs p 0 2 _ HP.out).mono ?_
  rintro e w2 ⟨rfl, hp2, hk2⟩
  have p2 := hk2.is HI.out (by omega)
  have f2 := fun i => p2.frozen i
  have l2 := p2.lt
  obtain ⟨o0, o1, o2, o3, o4⟩ := p2.cells5
  go_wp2_with fail
  obtain ⟨e0, e1, e2, e3, e4, hbel, hold, hsz⟩ := out5 p2.blk (.int .i64 0) (.int .i64 0) (.int .i64 0) (.string ⟨#[]⟩) (.slice none 0 0) w.heap.size (Nat.le_refl _)
  refine bodyPost_ret (v := .agg zV) (by simp [results, Tryz.results104, go_sem, e0, e1, e2, e3, e4]) rfl (Or.inr ⟨2, (p : Int), rfl, Or.inr rfl, rfl, hp2.below hbel hlA, Kp.grow (HK.out.trans hk2) hbel (Nat.le_of_lt hlA)⟩)
 | succ d ih =>
  intro deep p w hd hI hpl hp henv
  cases hmr : markR (bs.drop p) with
  | error c => exact pv_error A a cap bs hlen d ih deep p w hd hI hpl hp henv c hmr
  | ok knu =>
   obtain ⟨k, n, u⟩ := knu
   by_cases h7 : k = 7
   ·exact pv_7 A a cap bs hlen d ih deep p w hd hI hpl hp henv k n u hmr h7
   by_cases h8 : k = 8
   ·exact pv_8 A a cap bs hlen d ih deep p w hd hI hpl hp henv k n u hmr h8
   exact pv_49 A a cap bs hlen d ih deep p w hd hI hpl hp henv k n u hmr (by omega)
theorem Is.dr {w : World} {g : Nat} {e : TypeId} {cs : Array Value} (h : Is w g e cs) : Is w.drew g e cs := h.agree rfl
theorem Env.more {B B' : Nat} {w : World} (h : Env B w) (hB : B ≤ B') : Env B' w := ⟨fun v hv => h.1 v (hv.mono hB), fun v hv => h.2 v (hv.mono hB)⟩
def GetO (n : Nat) (w : World) (r : Except Int (T × Nat)) (e : Ending) (w' : World) : Prop :=
 (∃ t u a' cap', r = .ok (t, u) ∧ e = .returned (.tuple #[.agg (cV t a' cap'), .int .i64 (u : Nat), .int .i64 0]) ∧ Wf t ∧ u ≤ n ∧ Rn TV 5 w' w.heap.size a' cap' t.l ∧ Below w.heap.size w w') ∨
 (∃ c, r = .error c ∧ (c = 1 ∨ c = 2) ∧ e = .returned (.tuple #[.agg zV, .int .i64 0, .int .i64 c]) ∧ Below w.heap.size w w')
set_option maxHeartbeats 8000000 in
theorem impl_GetPacked0 (bs : List Int) (a : Option Addr) (cap B : Nat) (deep : Int) (w : World) (hr : Rd EByte 1 w B a cap bs) (hB : B ≤ w.heap.size) (hl : bs.length ≤ 1073741824) (hI : I64 deep) (he : Env B w) :
  Calls Tryz.prog 55 #[.slice a bs.length cap, .int .i64 0, .int .i64 deep] w fun e w' => GetO bs.length w (rdP deep.toNat bs) e w' := by
 obtain ⟨hlc, hcap⟩ := hr.len
 have hb1 := below1 w (.cells zV 26)
 have HQ0 := Is.new w zV 26
 obtain ⟨w1, hw1⟩ : ∃ w1, w.alloc (.cells zV 26) = w1 := ⟨_, rfl⟩
 have hs1 : w1.heap.size = w.heap.size + 1 := by rw [← hw1]; simp
 rw [hw1] at hb1 HQ0
 obtain ⟨w2, hw2⟩ : ∃ w2, w1.alloc (.cells #[.slice a bs.length cap, .int .i64 0, .int .i64 0] 85) = w2 := ⟨_, rfl⟩
 have hb2 : Below w1.heap.size w1 w2 := hw2 ▸ below1 w1 _
 have HA := Lib.hid (show Is w2 w1.heap.size 85 #[.slice a bs.length cap, .int .i64 0, .int .i64 0] from hw2 ▸ Is.new w1 _ _)
 have HQ := Lib.hid (HQ0.below hb2 (by omega))
 have HB2 := Lib.hid (show Below w.heap.size w w2 from hb1.trans (hb2.mono (by omega)))
 have HP := Lib.hid (show Pr w2 w1.heap.size a cap bs ((0 : Nat) : Int) 0 from ⟨HA.out, (hr.below EByte.loc HB2.out hB).more (by omega)⟩)
 have HE := Lib.hid ((he.step (HB2.out.mono hB)).more (show B ≤ w1.heap.size from by omega))
 have hlt2 : w1.heap.size < w2.heap.size := HA.out.lt
 clear hr hb1 HQ0 hb2 he
 have HVAL := Lib.hid (impl_pvalue w1.heap.size a cap bs hl deep.toNat deep 0 w2 rfl hI (Nat.zero_le _) HP.out HE.out)
 rw [List.drop_zero] at HVAL
 obtain ⟨r, hrr⟩ : ∃ r, rdP deep.toNat bs = r := ⟨_, rfl⟩
 rw [hrr] at HVAL ⊢
 clear hrr
 go_enter Tryz.func55, Tryz.ntmps55
 obtain ⟨A, hA⟩ : ∃ A, w.heap.size + 1 = A := ⟨_, rfl⟩
 rw [hs1, hA] at HVAL HP HE hlt2
 rw [hA] at hs1
 have hwA : w.heap.size < A := by omega
 go_wp2_with fail
 try rw [hA]
 refine HVAL.out.mono ?_
 clear hw1 hw2 HVAL HA hs1
 rintro e w3 (⟨t, u, a', c', rfl, rfl, hwf, hul, hpr, happ, hk⟩ | ⟨c, q, rfl, hc, rfl, hpr, hk⟩)
 ·have HQ3 := Lib.hid (hk.is HQ.out (by omega))
  have HP3 := Lib.hid hpr
  have HR3 := Lib.hid (happ.rn (Nat.le_refl _))
  have HB3 := Lib.hid (HB2.out.trans (hk.1.mono (by omega)))
  have hs3 := hk.size
  clear hpr happ hk
  obtain ⟨z0, z1, z2⟩ := HP3.out.1.cells3
  have lA := HP3.out.lt
  obtain ⟨r0, r1, r2, r3, r4⟩ := HQ3.out.cells5
  have fr := fun i => HQ3.out.frozen i
  have lR := HQ3.out.lt
  go_upto_region 5 with (fail)
  go_region
  obtain ⟨_, _, _, _, _, hbel, hold, hsz⟩ := out5 HQ3.out.blk (.int .i64 t.k) (.int .i64 t.n) (.int .i64 t.x) (.string t.s) (.slice a' t.l.length c') w.heap.size (Nat.le_refl _)
  have hI := (((((((HQ3.out.set 0 (.int .i64 t.k)).set 1 (.int .i64 t.n)).set 2 (.int .i64 t.x)).set 3 (.string t.s)).set 4 (.slice a' t.l.length c')).alloc (.cells (cV t a' c') 26)).dr)
  obtain ⟨e0, e1, e2, e3, e4⟩ := hI.cells5
  go_wp2_with fail
  refine bodyPost_ret (v := .tuple #[.agg (cV t a' c'), .int .i64 (u : Nat), .int .i64 0]) (by simp [results, Tryz.results55, go_sem, e0, e1, e2, e3, e4]) rfl ?_
  refine Or.inl ⟨t, u, a', c', rfl, rfl, hwf, by omega, ?_, ((HB3.out.trans hbel).trans ((below1 _ _).mono (by rw [hsz]; omega))).drew⟩
  have R1 := HR3.out.agree (w' := _) TV.elem.loc (fun f h1 _ => hold f (by omega)) (by rw [hsz]; exact Nat.le_refl _)
  exact ((R1.below TV.elem.loc (below1 _ _) (Nat.le_refl _)).below TV.elem.loc ((Below.refl _ _).drew) (Nat.le_refl _)).less (by omega)
 ·have HQ3 := Lib.hid (hk.is HQ.out (by omega))
  have HP3 := Lib.hid hpr
  have HB3 := Lib.hid (HB2.out.trans (hk.1.mono (by omega)))
  have hs3 := hk.size
  clear hpr hk
  have hcb : (c != 0) = true := by simp; omega
  obtain ⟨z0, z1, z2⟩ := HP3.out.1.cells3
  have lA := HP3.out.lt
  obtain ⟨r0, r1, r2, r3, r4⟩ := HQ3.out.cells5
  have fr := fun i => HQ3.out.frozen i
  have lR := HQ3.out.lt
  go_upto_region 4 with (fail)
  go_region
  obtain ⟨_, _, _, _, _, hbel, hold, hsz⟩ := out5 HQ3.out.blk (.int .i64 0) (.int .i64 0) (.int .i64 0) (.string ⟨#[]⟩) (.slice none 0 0) w.heap.size (Nat.le_refl _)
  have hI := (((((((HQ3.out.set 0 (.int .i64 0)).set 1 (.int .i64 0)).set 2 (.int .i64 0)).set 3 (.string ⟨#[]⟩)).set 4 (.slice none 0 0)).alloc (.cells zV 26)).dr)
  obtain ⟨e0, e1, e2, e3, e4⟩ := hI.cells5
  go_wp2_with fail
  refine bodyPost_ret (v := .tuple #[.agg zV, .int .i64 0, .int .i64 c]) (by simp [results, Tryz.results55, go_sem, e0, e1, e2, e3, e4]) rfl ?_
  exact Or.inr ⟨c, rfl, hc, rfl, ((HB3.out.trans hbel).trans ((below1 _ _).mono (by rw [hsz]; omega))).drew⟩
end Go.Proofs.YtggdenkmohnijaaGreatDoor
