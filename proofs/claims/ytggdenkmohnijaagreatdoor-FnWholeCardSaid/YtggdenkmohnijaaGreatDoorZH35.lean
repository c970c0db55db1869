/- Texts of this proof, merged: Rdr8. No condition beyond what each theorem states. -/
import Derived.Test.YtggdenkmohnijaaGreatDoorZH29
set_option linter.unusedSimpArgs false
set_option linter.unnecessarySimpa false
namespace Go.Proofs.YtggdenkmohnijaaGreatDoor
open Go.ChangeShapes Go.WideShapes Go.ChangeAt Go.RowKit Go.Joins
set_option linter.unusedVariables false
set_option maxRecDepth 100000
set_option maxHeartbeats 16000000 in
theorem pv_8 (A : Nat) (a : Option Addr) (cap : Nat) (bs : List Int) (hlen : bs.length ≤ 1073741824) (d : Nat) (ih : ∀ (deep : Int) (p : Nat) (w : World), deep.toNat = d → I64 deep → p ≤ bs.length → Pr w A a cap bs p 0 → Env A w → Calls Tryz.prog 104 #[.pointer (some ⟨A, 0, none⟩), .int .i64 deep] w fun e w' => RdO A a cap bs p w (rdP d (bs.drop p)) e w') (deep : Int) (p : Nat) (w : World) (hd : deep.toNat = d + 1) (hI : I64 deep) (hpl : p ≤ bs.length) (hp : Pr w A a cap bs p 0) (henv : Env A w) (k n : Int) (u : Nat) (hmr : markR (bs.drop p) = .ok (k, n, u)) (hsel : k = 8) :
    Calls Tryz.prog 104 #[.pointer (some ⟨A, 0, none⟩), .int .i64 deep] w fun e w' => RdO A a cap bs p w (rdP (d + 1) (bs.drop p)) e w' := by
  have HMR := Lib.hid hmr; clear hmr
  have HSEL := Lib.hid hsel; clear hsel
  obtain ⟨hI0, hI1⟩ := hI
  have hlA := hp.lt
  have IH := Lib.hid ih; clear ih
  have HENV := Lib.hid henv; clear henv
  have HP := Lib.hid (hp.below (below1 w (.cells zV 26)) hlA)
  have HI := Lib.hid (Is.new w zV 26)
  have HK := Lib.hid (Kp.alloc (w := w) (Nat.le_of_lt hlA) (.cells zV 26))
  have HBL := Lib.hid (below1 w (.cells zV 26))
  have hdz : ¬ deep < 1 := by omega
  have hd1 : (deep - 1).toNat = d := by omega
  have HD1 := Lib.hid hd1; clear hd1 hd
  have HU := Lib.hid (fun x (hx : x ∈ bs.drop p) => hp.2.u8 x (List.mem_of_mem_drop hx))
  obtain ⟨hlc, hcap⟩ := hp.2.len
  clear hp
  obtain ⟨L, hL⟩ : ∃ L, rdP (d + 1) (bs.drop p) = L := ⟨_, rfl⟩
  rw [hL]
  have HL := Lib.hid hL; clear hL
  have HGM := Lib.hid (getM_markR bs p hpl)
  go_enter Tryz.func104, Tryz.ntmps104
  go_upto_region 3 with (fail)
  have hs1 : (w.alloc (.cells zV 26)).heap.size = w.heap.size + 1 := by simp
  obtain ⟨R, hR⟩ : ∃ R, w.heap.size = R := ⟨_, rfl⟩
  generalize hW1 : w.alloc (.cells zV 26) = w1 at *
  have hRA : A < R := by omega
  have hA1 : A < w1.heap.size := HP.out.lt
  have hR1 : R < w1.heap.size := by omega
  clear hs1
  rw [hR]
  obtain ⟨z0, z1, z2⟩ := HP.out.1.cells3
  obtain ⟨G, hG⟩ : ∃ G, getM bs (p : Int) = G := ⟨_, rfl⟩
  rw [hG] at HGM
  have HG := Lib.hid hG; clear hG hW1
  go_cut [5, 6, 7] (fun mv ev cv wx => ∃ M, mv = .pointer (some ⟨M, 0, none⟩) ∧ ev = .int .i64 G.2.1 ∧ cv = .int .i64 G.2.2 ∧ w1.heap.size ≤ M ∧ Hid (Is wx M 87 (cM G.1.1 G.1.2)) ∧ Hid (Below w1.heap.size w1 wx))
  case first =>
    refine tkW (w1.heap.size) w1 (fun hHeld => ?_)
    refine tkS 0 18 rfl ?_
    refine tkS 1 19 rfl ?_
    refine tkS 2 20 rfl ?_
    refine tkS 3 21 rfl ?_
    refine tkS 4 22 rfl ?_
    refine tkS 5 23 rfl ?_
    refine tkS 6 24 rfl ?_
    refine tkS 7 25 rfl ?_
    refine tkR [8, 13] ?_
    refine tkC 26 rfl (fun K hK => ?_) ?_
    focus (go_simp; (first | (go_at_call 166; refine (impl_GetMark bs a cap A (p : Int) _ (HP.out.2.below EByte.loc (‹_ ∧ Below (w1.heap.size) w1 _›).2 (Nat.le_of_lt hA1)) (by have := (‹_ ∧ Below (w1.heap.size) w1 _›).2.size; omega) ⟨by omega, by omega⟩ (by omega)).mono ?_; rintro e w2 ⟨rfl, hb2⟩; have hq0 := (‹_ ∧ Below (w1.heap.size) w1 _›).2.size; have hq1 := hb2.size; (try simp only [World.size_drew, size_alloc] at hq0 hq1); (try (have hm2 : Is w2 w1.heap.size 87 (cM 0 0) := (Is.new w1.drew (cM 0 0) 87).below hb2 (by simp); have fm := (fun i => hm2.frozen i); have lm := hm2.lt; obtain ⟨m0, m1⟩ := hm2.cells2)); rw [HG.out])); go_wp2_with fail; refine tkK hK (fun hHeld => ?_); clear hK K)
    refine tkS 9 17 rfl ?_
    refine tkS 10 27 rfl ?_
    refine tkS 11 28 rfl ?_
    refine tkS 12 29 rfl ?_
    refine tkA 13 5 rfl (fun K hK => ?_)
    focus (go_simp; go_wp2_with fail; refine tkK hK (fun hHeld => ?_) (hS := (kpA (by assumption))); clear hK K)
    refine tkB 14 rfl (fun K hK => ?_)
    focus (go_simp; go_wp2_with fail; refine tkK hK (fun hHeld => ?_) (hS := (by first | exact kpA (by assumption) | (clear hHeld; exact kpA (by assumption)))); clear hK K)
    refine tkS 15 6 rfl ?_
    refine tkS 16 7 rfl ?_
    refine tkE ?_
    rotate_left 1
    refine tkC 5 rfl (fun K hK => ?_) AllReadyH.nil
    focus (go_simp; go_wp2_with fail; refine tkK hK (fun hHeld => ?_) (hS := (kpA (by assumption))); clear hK K)
    refine tkA 8 26 rfl (fun K hK => ?_)
    focus (go_simp; (first | (go_at_call 166; refine (impl_GetMark bs a cap A (p : Int) _ (HP.out.2.below EByte.loc (‹_ ∧ Below (w1.heap.size) w1 _›).2 (Nat.le_of_lt hA1)) (by have := (‹_ ∧ Below (w1.heap.size) w1 _›).2.size; omega) ⟨by omega, by omega⟩ (by omega)).mono ?_; rintro e w2 ⟨rfl, hb2⟩; have hq0 := (‹_ ∧ Below (w1.heap.size) w1 _›).2.size; have hq1 := hb2.size; (try simp only [World.size_drew, size_alloc] at hq0 hq1); (try (have hm2 : Is w2 w1.heap.size 87 (cM 0 0) := (Is.new w1.drew (cM 0 0) 87).below hb2 (by simp); have fm := (fun i => hm2.frozen i); have lm := hm2.lt; obtain ⟨m0, m1⟩ := hm2.cells2)); rw [HG.out])); go_wp2_with fail; refine tkK hK (fun hHeld => ?_); clear hK K)
    refine tkS 9 17 rfl ?_
    refine tkS 10 27 rfl ?_
    refine tkS 11 28 rfl ?_
    refine tkS 12 29 rfl ?_
    refine tkB 14 rfl (fun K hK => ?_)
    focus (go_simp; go_wp2_with fail; refine tkK hK (fun hHeld => ?_) (hS := (by exact keep_step (by assumption) (below2s _ _ _ _) (by omega))); clear hK K)
    refine tkS 15 6 rfl ?_
    refine tkS 16 7 rfl ?_
    refine tkE ?_
    all_goals
      have hcu := (‹_ ∧ Below (w1.heap.size) w1 _›).2
      go_wp2_with fail
      go_meet
      case rel => first | exact ⟨w1.heap.size, rfl, rfl, rfl, Nat.le_refl _, Lib.hid ((hm2.set 0 _).set 1 _), Lib.hid hcu⟩ | exact ⟨w2.heap.size, rfl, rfl, rfl, by omega, Lib.hid (Is.new w2 _ _), Lib.hid hcu⟩
  case rest =>
    clear z0 z1 z2
    obtain ⟨M, rfl, rfl, rfl, hM1, HM, HBX⟩ := hcut
    rename World => wx
    have HPX := Lib.hid (HP.out.below HBX.out hA1)
    have HIX := Lib.hid (show Is wx R 26 zV from hR ▸ (HI.out.below HBX.out (by omega)))
    have HKX := Lib.hid (HK.out.grow (HBX.out.mono (by have := HK.out.size; omega)) (by omega))
    have HEX := Lib.hid ((HENV.out.step (HK.out.1)).step (HBX.out.mono (Nat.le_of_lt hA1)))
    clear HP HI HBL HENV HG
    have hmr := HMR.out
    have hmi := markR_in HU.out hmr
    have hLL := HL.out
    rw [rdP, hmr] at hLL
    dsimp only at hLL
    have HLL := Lib.hid hLL; clear hLL
    obtain rfl : G = ((k, n), (p : Int) + u, 0) := by rw [HGM.out, hmr]
    clear HL HGM hmr HMR
    dsimp only at HM ⊢
    obtain ⟨⟨hu1, hu2⟩, ⟨hn0, hn1⟩, hk⟩ := hmi
    rw [List.length_drop] at hu2
    have HK9 := Lib.hid hk; clear hk
    obtain ⟨q, hq⟩ : ∃ q, p + u = q := ⟨_, rfl⟩
    have hqi : (p : Int) + (u : Int) = (q : Int) := by omega
    have hql : q ≤ bs.length := by omega
    have HQ := Lib.hid hq; clear hq
    rw [hqi]
    have HPQ := Lib.hid (HPX.out.at (q : Int))
    have hMA : A < M := by omega
    have hMR : R < M := by omega
    have HMQ := Lib.hid (HM.out.miss A 1 (by omega) (.int .i64 (q : Int)))
    have HIQ := Lib.hid (HIX.out.miss A 1 (by omega) (.int .i64 (q : Int)))
    have HKQ := Lib.hid (HKX.out.trans (Kp.cell (A := A) (w := wx) 1 (.int .i64 (q : Int))))
    have HEQ := Lib.hid (HEX.out.step (Kp.cell (A := A) (w := wx) 1 (.int .i64 (q : Int))).1)
    have ff := fun i => HPX.out.1.frozen i
    obtain ⟨z0, z1, z2⟩ := HPX.out.1.cells3
    have hAx : A < wx.heap.size := HPX.out.lt
    go_upto_region 7 with (fail)
    have hAq : A < (wx.setCell ⟨A, 1, none⟩ (.int .i64 (q : Int))).heap.size := HPQ.out.lt
    have hMq : M < (wx.setCell ⟨A, 1, none⟩ (.int .i64 (q : Int))).heap.size := HMQ.out.lt
    have hRq : R < (wx.setCell ⟨A, 1, none⟩ (.int .i64 (q : Int))).heap.size := HIQ.out.lt
    clear ff z0 z1 z2 hAx HPX HIX HM HKX HEX
    generalize wx.setCell ⟨A, 1, none⟩ (.int .i64 (q : Int)) = wq at *
    obtain ⟨m0, m1⟩ := HMQ.out.cells2
    refine tkW (wq.heap.size) wq (fun hHeld => ?_)
    refine tkS 0 39 rfl ?_
    refine tkS 1 40 rfl ?_
    refine tkS 2 41 rfl ?_
    refine tkS 3 42 rfl ?_
    refine tkS 4 43 rfl ?_
    refine tkA 5 8 rfl (fun K hK => ?_)
    go_simp; go_wp2_with fail; refine tkK hK (fun hHeld => ?_) (hS := (kpA (by assumption))); clear hK K
    refine tkB 6 rfl (fun K hK => ?_)
    focus (go_simp; go_wp2_with fail; refine tkK hK (fun hHeld => ?_) (hS := (by first | exact kpA (by assumption) | (clear hHeld; exact kpA (by assumption)))); clear hK K)
    refine tkS 7 9 rfl ?_
    refine tkE ?_
    clear hHeld
    clear m0 m1
    obtain ⟨V, hV⟩ : ∃ V, wq.heap.size = V := ⟨_, rfl⟩
    have HBV := Lib.hid (show Below wq.heap.size wq (wq.alloc (.cells #[Value.int IntKind.i64 k, Value.int IntKind.i64 0, Value.int IntKind.i64 0, Value.string ⟨#[]⟩, Value.slice none 0 0] 26)).drew from (below1 wq _).drew)
    have HVV := Lib.hid (show Is (wq.alloc (.cells #[Value.int IntKind.i64 k, Value.int IntKind.i64 0, Value.int IntKind.i64 0, Value.string ⟨#[]⟩, Value.slice none 0 0] 26)).drew V 26 #[Value.int IntKind.i64 k, Value.int IntKind.i64 0, Value.int IntKind.i64 0, Value.string ⟨#[]⟩, Value.slice none 0 0] from hV ▸ (Is.new wq #[Value.int IntKind.i64 k, Value.int IntKind.i64 0, Value.int IntKind.i64 0, Value.string ⟨#[]⟩, Value.slice none 0 0] 26).agree rfl)
    have HMV := Lib.hid (HMQ.out.below HBV.out hMq)
    have HPV := Lib.hid (HPQ.out.below HBV.out hAq)
    have HIV := Lib.hid (HIQ.out.below HBV.out hRq)
    have HKV := Lib.hid (Kp.grow HKQ.out (HBV.out.mono (Kp.size HKQ.out)) (Nat.le_of_lt hlA))
    have HEV := Lib.hid (HEQ.out.step (HBV.out.mono (Nat.le_of_lt hAq)))
    have hMV : M < V := by omega
    have hAV : A < V := by omega
    have hRV : R < V := by omega
    have hwR : w.heap.size ≤ R := by omega
    try rw [hV]
    clear HBV
    generalize (wq.alloc (.cells #[Value.int IntKind.i64 k, Value.int IntKind.i64 0, Value.int IntKind.i64 0, Value.string ⟨#[]⟩, Value.slice none 0 0] 26)).drew = wv at *
    clear HMQ HPQ HIQ HKQ HEQ hAq hMq hRq hV hR
    obtain ⟨m0, m1⟩ := HMV.out.cells2
    obtain ⟨v0, v1, v2, v3, v4⟩ := HVV.out.cells5
    obtain ⟨r0, r1, r2, r3, r4⟩ := HIV.out.cells5
    have fv := fun i => HVV.out.frozen i
    have fr := fun i => HIV.out.frozen i
    have lM := HMV.out.lt; have lV := HVV.out.lt; have lR := HIV.out.lt
    have hltA := HPV.out.lt
    by_cases hk4 : k = 4
    · exact absurd hk4 (by have h1 := HSEL.out; omega)
    by_cases hk78 : k = 7 ∨ k = 8
    · obtain ⟨m, rfl⟩ : ∃ m : Nat, n = m := ⟨n.toNat, by have := HK9.out; omega⟩
      have hm : m ≤ 65535 := by have := HK9.out; omega
      have hLL := HLL.out
      rw [if_neg hk4, if_pos hk78, List.length_drop, Int.toNat_natCast, List.drop_drop, HQ.out] at hLL
      have hsq : bs.length - p - u = bs.length - q := by have := HQ.out; omega
      rw [hsq] at hLL
      have HLL2 := Lib.hid hLL; clear hLL HLL hsq
      have c4 : (k == 4) = false := by simpa using hk4
      obtain ⟨z0, z1, z2⟩ := HPV.out.1.cells3
      have hsb : (bs.length : Int) - (q : Int) = ((bs.length - q : Nat) : Int) := by omega
      obtain ⟨D, hD⟩ : ∃ D, bs.length - q = D := ⟨_, rfl⟩
      rw [hD] at HLL2 hsb
      have hdq : q + D = bs.length := by omega
      clear hD
      have c7 : (k == 7) = false := by have h1 := HSEL.out; simp; omega
      have c8 : (k == 8) = true := by simpa using HSEL.out
      by_cases hlt : D < m
      · have hlz : (D : Int) < (m : Int) := by omega
        have HLE := Lib.hid (show L = .error 1 from by rw [← HLL2.out, if_pos hlz])
        all_goals
            go_upto_region 17 with (fail)
            go_quiet (fail)
            have HPE := Lib.hid (show Pr (wv.drewN nq) A a cap bs (q : Int) 0 from HPV.out.below (below_drewN (A + 1) wv nq) (by omega))
            have HIE := Lib.hid (HIV.out.agree (w' := wv.drewN nq) rfl)
            have HKE := Lib.hid (HKV.out.trans (Kp.drewN (A := A) (w := wv) nq))
            clear v0 v1 v2 v3 v4 r0 r1 r2 r3 r4 m0 m1 fv fr z0 z1 z2 lV lM lR hltA
            generalize wv.drewN nq = we at *
            go_wp2_with fail
            refine (impl_pfail A a cap bs (q : Int) 0 1 _ HPE.out).mono ?_
            rintro e w8 ⟨rfl, hp8, hk8⟩
            have p8 := hk8.is HIE.out (by omega)
            have f8 := fun i => p8.frozen i
            have l8 := p8.lt
            obtain ⟨o0, o1, o2, o3, o4⟩ := p8.cells5
            go_wp2_with fail
            obtain ⟨e0, e1, e2, e3, e4, hbel, hold, hsz⟩ := out5 p8.blk (.int .i64 0) (.int .i64 0) (.int .i64 0) (.string ⟨#[]⟩) (.slice none 0 0) R (Nat.le_refl _)
            refine bodyPost_ret (v := .agg zV) (by simp [results, Tryz.results104, go_sem, e0, e1, e2, e3, e4]) rfl (Or.inr ⟨1, (q : Int), HLE.out, Or.inl rfl, rfl, hp8.below hbel hRA, Kp.grow (HKE.out.trans hk8) (hbel.mono (by omega)) (by omega)⟩)
      have hlz : ¬ (D : Int) < (m : Int) := by omega
      obtain ⟨b, o, hae, hbA, _⟩ := HPV.out.2.byte 0 (by omega)
      subst hae
      have hlcap := HPV.out.2.len
      obtain ⟨E, hE⟩ : ∃ E, q + m = E := ⟨_, rfl⟩
      have hEi : (q : Int) + (m : Int) = (E : Int) := by omega
      have hEq : E - q = m := by omega
      have hqE : q ≤ E := by omega
      have hEc : E ≤ cap := by omega
      have hqw : IntKind.i64.wrap (q : Int) = (q : Int) := by rw [Go.IntWalk.i64_left, Go.IntWalk.wrap64_in _ ⟨by omega, by omega⟩]
      obtain ⟨S, hS⟩ : ∃ S, strOfNums ((bs.drop q).take m) = S := ⟨_, rfl⟩
      have hlen2 : ((bs.drop q).take m).length = m := by rw [List.length_take, List.length_drop]; omega
      have hSs : S.size = m := by rw [← hS, strOfNums_size, hlen2]
      rw [hS, if_neg hlz] at HLL2
      all_goals
          go_upto_region 17 with (fail)
          go_quiet (fail)
          have HPE := Lib.hid (show Pr (wv.drewN nq) A (some ⟨b, o, none⟩) cap bs (q : Int) 0 from HPV.out.below (below_drewN (A + 1) wv nq) (by omega))
          have HIE := Lib.hid (HIV.out.agree (w' := wv.drewN nq) rfl)
          have HVE := Lib.hid (HVV.out.agree (w' := wv.drewN nq) rfl)
          have HME := Lib.hid (HMV.out.agree (w' := wv.drewN nq) rfl)
          have HEE := Lib.hid (HEV.out.step (below_drewN A wv nq))
          have HKE := Lib.hid (HKV.out.trans (Kp.drewN (A := A) (w := wv) nq))
          clear v0 v1 v2 v3 v4 r0 r1 r2 r3 r4 m0 m1 fv fr z0 z1 z2 lV lM lR hltA
          generalize wv.drewN nq = we at *
          clear HPV HIV HVV HMV HKV HEV
          go_upto_region 19 with (fail)
          obtain ⟨z0, z1, z2⟩ := HPE.out.1.cells3
          obtain ⟨m0, m1⟩ := HME.out.cells2
          obtain ⟨v0, v1, v2, v3, v4⟩ := HVE.out.cells5
          have fv := fun i => HVE.out.frozen i
          have lVe := HVE.out.lt; have lMe := HME.out.lt; have lAe := HPE.out.lt
          have hRM := Lib.hid (fun (W : World) (hR : Rd EByte 1 W A (some ⟨b, o, none⟩) cap bs) => (show (convert 22 9 (.slice (some ⟨b, o + q, none⟩) m (cap - q))).run Tryz.prog W = .ok (.string S) W from by
            have := conv_rd W A b (o + q) (cap - q) _ (hR.mid q m (cap - q) (by omega) (by omega) (by unfold maxLen; omega))
            rw [hlen2, hS] at this; exact this))
          have hRN := Lib.hid (fun (W : World) (hm0 : m = 0) => (show (convert 22 9 (.slice (some ⟨b, o, none⟩) m 0)).run Tryz.prog W = .ok (.string S) W from by
            have := conv_rd W A b o 0 ((bs.drop q).take m) (by rw [hm0, List.take_zero]; exact ⟨[], Sl.nil _ _ _ (by unfold maxLen; omega), by simp⟩)
            rw [hlen2, hS] at this; exact this))
          by_cases hcq : cap = q
          focus (have hcv := hRN.out we (by omega); have hcv2 := hRN.out we.drew (by omega); go_region)
          rotate_left
          focus (have hcv := hRM.out we HPE.out.2; have hcv2 := hRM.out we.drew (HPE.out.2.below EByte.loc ((Below.refl A _).drew) (Nat.le_refl _)); go_region)
          all_goals
            have HV6 := Lib.hid ((HVE.out.set 3 (.string S)).agree (w' := ((we.setCell ⟨V, 3, none⟩ (.string S)).drew)) rfl)
            have HI6 := Lib.hid ((HIE.out.miss V 3 (by omega) (.string S)).agree (w' := ((we.setCell ⟨V, 3, none⟩ (.string S)).drew)) rfl)
            have HM6 := Lib.hid ((HME.out.miss V 3 (by omega) (.string S)).agree (w' := ((we.setCell ⟨V, 3, none⟩ (.string S)).drew)) rfl)
            have HP6 := Lib.hid ((HPE.out.miss V 3 (by omega) (.string S)).below ((Below.refl (A + 1) _).drew) (by omega))
            have HE6 := Lib.hid (HEE.out.step (show Below A we ((we.setCell ⟨V, 3, none⟩ (.string S)).drew) from ((Below.refl A we).setCell (p := ⟨V, 3, none⟩) (Nat.le_of_lt (by omega)) _).drew))
            have HK6 := Lib.hid ((Kp.set (g := V) HKE.out (by omega) (by omega) 3 (.string S)).trans (show Kp A _ ((we.setCell ⟨V, 3, none⟩ (.string S)).drew) from ⟨(Below.refl _ _).drew, fun _ _ _ => rfl⟩))
            clear z0 z1 z2 m0 m1 v0 v1 v2 v3 v4 fv lVe lMe lAe hcv hcv2
            clear HVE HIE HME HPE HEE HKE
            generalize ((we.setCell ⟨V, 3, none⟩ (.string S)).drew) = w6 at *
            first
              | (have hk7 : ¬ k = 7 := by simpa using c7
                 have HLK := Lib.hid (show L = .ok (.mk k 0 0 S [], u + m) from by rw [← HLL2.out, if_neg (fun h => hk7 h.1)])
                 obtain ⟨w7, hw7⟩ : ∃ w7, w6 = w7 := ⟨_, rfl⟩
                 rw [hw7] at HV6 HM6 HI6 HP6 HK6 ⊢
                 have HV7 := HV6; have HM7 := HM6; have HI7 := HI6; have HP7 := HP6; have HK7 := HK6
                 clear HV6 HM6 HI6 HP6 HK6 HE6 hw7 hk7
                 obtain ⟨m0, m1⟩ := HM7.out.cells2; have lM7 := HM7.out.lt
                 go_upto_region 22 with (fail)
                 clear m0 m1 lM7)
              | (have hk7 : k = 7 := by simpa using c7
                 have hT := HE6.out.2 _ (Below.refl A w6)
                 have hSm : S.size ≤ 4611686018427387903 := by omega
                 obtain ⟨v0, v1, v2, v3, v4⟩ := HV6.out.cells5
                 obtain ⟨m0, m1⟩ := HM6.out.cells2
                 have lV6 := HV6.out.lt; have lM6 := HM6.out.lt
                 go_wp2_with fail
                 refine (impl_TextOk S w6 hSm hT).mono ?_
                 rintro e w7 ⟨rfl, hb7⟩
                 have HV7 := Lib.hid (HV6.out.below hb7 lV6)
                 have HM7 := Lib.hid (HM6.out.below hb7 lM6)
                 have HI7 := Lib.hid (HI6.out.below hb7 HI6.out.lt)
                 have HP7 := Lib.hid (HP6.out.below hb7 HP6.out.lt)
                 have HK7 := Lib.hid (Kp.grow HK6.out (hb7.mono (Kp.size HK6.out)) (Nat.le_of_lt hlA))
                 clear v0 v1 v2 v3 v4 m0 m1 lV6 lM6 hb7 hT
                 have HVL := Lib.hid (fun (bv : Bool) (h : Lib.validD S.data.toList = bv) => h)
                 cases hvl : Lib.validD S.data.toList
                 · have HLE := Lib.hid (show L = .error 1 from by rw [← HLL2.out, if_pos ⟨hk7, hvl⟩])
                   clear hk7 hvl HVL
                   go_wp2_with fail
                   refine (impl_pfail A (some ⟨b, o, none⟩) cap bs (q : Int) 0 1 _ HP7.out).mono ?_
                   rintro e w8 ⟨rfl, hp8, hk8⟩
                   have p8 := hk8.is HI7.out (by omega)
                   have f8 := fun i => p8.frozen i
                   have l8 := p8.lt
                   obtain ⟨o0, o1, o2, o3, o4⟩ := p8.cells5
                   go_wp2_with fail
                   obtain ⟨e0, e1, e2, e3, e4, hbel, hold, hsz⟩ := out5 p8.blk (.int .i64 0) (.int .i64 0) (.int .i64 0) (.string ⟨#[]⟩) (.slice none 0 0) R (Nat.le_refl _)
                   refine bodyPost_ret (v := .agg zV) (by simp [results, Tryz.results104, go_sem, e0, e1, e2, e3, e4]) rfl (Or.inr ⟨1, (q : Int), HLE.out, Or.inl rfl, rfl, hp8.below hbel hRA, Kp.grow (HK7.out.trans hk8) (hbel.mono (by omega)) (by omega)⟩)
                 have HLK := Lib.hid (show L = .ok (.mk k 0 0 S [], u + m) from by rw [← HLL2.out, if_neg (by rw [hvl]; simp)])
                 clear hk7 hvl HVL
                 go_upto_region 22 with (fail))
            have HLE := Lib.hid (show L = .ok (.mk k 0 0 S [], u + m) from HLK.out)
            have HWS := Lib.hid (wfK3 (s := S) hk78 (by omega))
            obtain ⟨z0, z1, z2⟩ := HP7.out.1.cells3
            obtain ⟨m0, m1⟩ := HM7.out.cells2
            have fA := fun i => HP7.out.1.frozen i
            have lAx := HP7.out.lt; have lMx := HM7.out.lt
            go_region
            have HVY := Lib.hid ((HV7.out.miss A 1 (by omega) (.int .i64 (E : Int))).agree (w' := (w7.setCell ⟨A, 1, none⟩ (.int .i64 (E : Int))).drew) rfl)
            have HIY := Lib.hid ((HI7.out.miss A 1 (by omega) (.int .i64 (E : Int))).agree (w' := (w7.setCell ⟨A, 1, none⟩ (.int .i64 (E : Int))).drew) rfl)
            have HPY := Lib.hid ((HP7.out.at (E : Int)).below ((Below.refl (A + 1) _).drew) (by omega))
            have HKY := Lib.hid ((HK7.out.trans (Kp.cell (A := A) (w := w7) 1 (.int .i64 (E : Int)))).trans (show Kp A _ ((w7.setCell ⟨A, 1, none⟩ (.int .i64 (E : Int))).drew) from ⟨(Below.refl _ _).drew, fun _ _ _ => rfl⟩))
            clear z0 z1 z2 m0 m1 fA lAx lMx
            generalize (w7.setCell ⟨A, 1, none⟩ (.int .i64 (E : Int))).drew = wy at *
            obtain ⟨v0, v1, v2, v3, v4⟩ := HVY.out.cells5
            obtain ⟨r0, r1, r2, r3, r4⟩ := HIY.out.cells5
            have fr := fun i => HIY.out.frozen i
            have lVy := HVY.out.lt; have lRy := HIY.out.lt
            go_wp2_with fail
            obtain ⟨e0, e1, e2, e3, e4, hbel, hold, hsz⟩ := out5 HIY.out.blk (.int .i64 k) (.int .i64 0) (.int .i64 0) (.string S) (.slice none 0 0) R (Nat.le_refl _)
            refine bodyPost_ret (v := .agg #[.int .i64 k, .int .i64 0, .int .i64 0, .string S, .slice none 0 0]) (by simp [results, Tryz.results104, go_sem, e0, e1, e2, e3, e4]) rfl (Or.inl ⟨_, u + m, none, 0, HLE.out, rfl, HWS.out, by have := HQ.out; omega, ?_, App.nil _ _ _, Kp.grow HKY.out (hbel.mono (by omega)) (by omega)⟩)
            rw [show p + (u + m) = E from by have := HQ.out; omega]
            (first | exact HPY.out.below hbel hRA | (have hz := HPY.out.below hbel hRA; rw [hcq] at hz; exact hz))
    exact absurd (show k = 7 ∨ k = 8 from by have h1 := HSEL.out; omega) hk78
end Go.Proofs.YtggdenkmohnijaaGreatDoor
