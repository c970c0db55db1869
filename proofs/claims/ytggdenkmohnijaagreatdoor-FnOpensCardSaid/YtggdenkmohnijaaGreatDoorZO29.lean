/- Texts of this proof, merged: TigE. No condition beyond what each theorem states. -/
import Derived.Test.YtggdenkmohnijaaGreatDoorZO27
set_option linter.unusedSimpArgs false
set_option linter.unnecessarySimpa false
namespace Go.Proofs.YtggdenkmohnijaaGreatDoor
open Go.ChangeShapes Go.WideShapes Go.ChangeAt Go.RowKit Go.Joins
set_option linter.unusedVariables false
set_option maxRecDepth 100000
def remT (g : List Int → Except Int (T × Nat)) (o ob : Bool) (N J f : Nat) (l : List Int) : Except Int (List T × Nat) :=
 if ob then rdOpen g o (decide (J % 2 = 1)) f l else rdMany g (N - J) l
theorem remT_stop {g : List Int → Except Int (T × Nat)} {o : Bool} {N J f : Nat} {l : List Int} (h : l.getD 0 0 = 255) (hp : ¬ (o = true ∧ J % 2 = 1)) : remT g o true N J (f + 1) l = .ok ([], 1) := by
 unfold remT; rw [if_pos rfl, rdOpen, if_pos h, if_neg (fun hh => hp ⟨hh.1, by simpa using hh.2⟩)]
theorem remT_bad {g : List Int → Except Int (T × Nat)} {o : Bool} {N J f : Nat} {l : List Int} (h : l.getD 0 0 = 255) (hp : o = true ∧ J % 2 = 1) : remT g o true N J (f + 1) l = .error 1 := by
 unfold remT; rw [if_pos rfl, rdOpen, if_pos h, if_pos ⟨hp.1, by simpa using hp.2⟩]
theorem remT_done {g : List Int → Except Int (T × Nat)} {o : Bool} {N f : Nat} {l : List Int} : remT g o false N N f l = .ok ([], 0) := by
 unfold remT; rw [if_neg (by simp), Nat.sub_self, rdMany]
theorem remT_next {g : List Int → Except Int (T × Nat)} {o ob : Bool} {N J f : Nat} {l : List Int} (h1 : ob = true → ¬ l.getD 0 0 = 255) (h2 : ob = false → J < N) :
  remT g o ob N J (f + 1) l = (match g l with | .error c => .error c | .ok (t, u) => match remT g o ob N (J + 1) f (l.drop u) with | .error c => .error c | .ok (ts, v) => .ok (t :: ts, u + v)) := by
 cases ob with
 | true =>
  unfold remT
  rw [if_pos rfl, rdOpen, if_neg (h1 rfl)]
  have e : (!decide (J % 2 = 1)) = decide ((J + 1) % 2 = 1) := by
   by_cases h : J % 2 = 1
   ·rw [decide_eq_true h, decide_eq_false (by omega)]; rfl
   ·rw [decide_eq_false h, decide_eq_true (by omega)]; rfl
  rw [e]
  cases g l with
  | error c => rfl
  | ok x =>
   obtain ⟨t, u⟩ := x
   simp only [if_true]
   cases rdOpen g o (decide ((J + 1) % 2 = 1)) f (l.drop u) <;> rfl
 | false =>
  unfold remT
  have e : N - J = (N - (J + 1)) + 1 := by have := h2 rfl; omega
  rw [if_neg (by simp), e, rdMany]
  cases g l with
  | error c => rfl
  | ok x =>
   obtain ⟨t, u⟩ := x
   simp only [Bool.false_eq_true, if_false]
   cases rdMany g (N - (J + 1)) (l.drop u) <;> rfl
theorem wfL {k : Int} {ts : List T} (hk : 0 ≤ k ∧ k ≤ 11) : Wf (.mk k 0 0 ⟨#[]⟩ ts) := ⟨by show I64 k; exact ⟨by omega, by omega⟩, by show I64 0; exact ⟨by decide, by decide⟩, by show I64 0; exact ⟨by decide, by decide⟩, by show (⟨#[]⟩ : ByteArray).size ≤ maxLen; exact Nat.zero_le _⟩
theorem rdT_pos {d : Nat} {l : List Int} {t : T} {u : Nat} (hu : ∀ x ∈ l, U8 x) (h : rdT d l = .ok (t, u)) : 1 ≤ u := by
 cases d with
 | zero => cases h
 | succ d =>
  rw [rdT] at h
  cases hr : rdH l with
  | error c => rw [hr] at h; cases h
  | ok x =>
   obtain ⟨⟨mj, n, w⟩, u1⟩ := x
   rw [hr] at h
   dsimp only at h
   have := (rdH_in hu hr).1.1
   cases hb : rdBody (rdT d) mj n w (l.drop u1) with
   | error c => rw [hb] at h; cases h
   | ok y =>
    obtain ⟨t2, v⟩ := y
    rw [hb] at h
    cases h
    omega
def allT (kd : Int) (ts : List T) (v0 : Nat) (r : Except Int (List T × Nat)) : Except Int (T × Nat) :=
 match r with | .error c => .error c | .ok (ts2, v) => .ok (.mk kd 0 0 ⟨#[]⟩ (ts ++ ts2), v0 + v)
theorem allT_next {kd : Int} {ts : List T} {v0 u : Nat} {t : T} {r : Except Int (List T × Nat)} : allT kd ts v0 (match r with | .error c => .error c | .ok (ts2, v) => .ok (t :: ts2, u + v)) = allT kd (ts ++ [t]) (v0 + u) r := by
 unfold allT
 cases r with
 | error c => rfl
 | ok x => obtain ⟨ts2, v⟩ := x; simp [Nat.add_assoc]
set_option maxHeartbeats 16000000 in
theorem impl_telements (A : Nat) (a : Option Addr) (cap : Nat) (bs : List Int) (hlen : bs.length ≤ 1073741824) (d : Nat)
    (ih : ∀ (deep : Int) (p : Nat) (w : World), deep.toNat = d → I64 deep → p ≤ bs.length → Tr w A a cap bs p 0 → Env A w →
      Calls Tryz.prog 95 #[.pointer (some ⟨A, 0, none⟩), .int .i64 deep] w fun e w' => TdO A a cap bs p w (rdT d (bs.drop p)) e w')
    (deep : Int) (hd : (deep - 1).toNat = d) (hI0 : 1 ≤ deep) (hI1 : deep ≤ 9223372036854775807) (p : Nat) (mj n wd : Int) (w : World) (hp : Tr w A a cap bs p 0) (hpl : p ≤ bs.length) (hmj : mj = 4 ∨ mj = 5) (hn : 0 ≤ n ∧ n ≤ 1000000000000000) (henv : Env A w) :
    Calls Tryz.prog 156 #[.pointer (some ⟨A, 0, none⟩), .agg (cH mj n wd), .int .i64 deep] w fun e w' =>
      TdO A a cap bs p w (match (if wd = -1 then rdOpen (rdT d) (decide (mj = 5)) false ((bs.drop p).length + 1) (bs.drop p) else rdMany (rdT d) (if mj = 5 then 2 * n.toNat else n.toNat) (bs.drop p)) with | .error c => .error c | .ok (ts, v) => .ok (.mk (if mj = 5 then 10 else 9) 0 0 ⟨#[]⟩ ts, v)) e w' := by
  have hlA := hp.lt
  have IH := Lib.hid ih; clear ih
  have HD := Lib.hid hd; clear hd
  obtain ⟨m, rfl⟩ : ∃ m : Nat, n = m := ⟨n.toNat, by omega⟩
  have hm := hn.2; clear hn
  obtain ⟨kd, hkd⟩ : ∃ kd : Int, (if mj = 5 then 10 else 9) = kd := ⟨_, rfl⟩
  obtain ⟨ea, hea⟩ : ∃ ea : Nat, (if mj = 5 then 2 else 1) = ea := ⟨_, rfl⟩
  obtain ⟨o, ho⟩ : ∃ o : Bool, decide (mj = 5) = o := ⟨_, rfl⟩
  obtain ⟨ob, hob⟩ : ∃ ob : Bool, (wd == -1) = ob := ⟨_, rfl⟩
  have hea12 : (ea = 1 ∧ o = false) ∨ (ea = 2 ∧ o = true) := by
    rw [← hea, ← ho]
    by_cases h : mj = 5
    · exact Or.inr ⟨if_pos h, decide_eq_true h⟩
    · exact Or.inl ⟨if_neg h, decide_eq_false h⟩
  have hkd3 : ((mj == 5) = true ∧ kd = 10 ∧ ea = 2) ∨ ((mj == 5) = false ∧ kd = 9 ∧ ea = 1) := by
    by_cases h : mj = 5
    · exact Or.inl ⟨by simpa using h, by rw [← hkd, if_pos h], by rw [← hea, if_pos h]⟩
    · exact Or.inr ⟨by simpa using h, by rw [← hkd, if_neg h], by rw [← hea, if_neg h]⟩
  have hN : (if mj = 5 then 2 * (m : Int).toNat else (m : Int).toNat) = ea * m := by
    rw [Int.toNat_natCast, ← hea]; split <;> omega
  rw [hkd, ho, hN]
  obtain ⟨L, hL⟩ : ∃ L, (match (if wd = -1 then rdOpen (rdT d) o false ((bs.drop p).length + 1) (bs.drop p) else rdMany (rdT d) (ea * m) (bs.drop p)) with | .error c => (.error c : Except Int (T × Nat)) | .ok (ts, v) => .ok (.mk kd 0 0 ⟨#[]⟩ ts, v)) = L := ⟨_, rfl⟩
  rw [hL]
  have HL := Lib.hid (show allT kd [] 0 (remT (rdT d) o ob (ea * m) 0 ((bs.drop p).length + 1) (bs.drop p)) = L from by
    rw [← hL]
    unfold allT remT
    have e : ((if ob then rdOpen (rdT d) o (decide (0 % 2 = 1)) ((bs.drop p).length + 1) (bs.drop p) else rdMany (rdT d) (ea * m - 0) (bs.drop p)) : Except Int (List T × Nat)) = (if wd = -1 then rdOpen (rdT d) o false ((bs.drop p).length + 1) (bs.drop p) else rdMany (rdT d) (ea * m) (bs.drop p)) := by
      by_cases h : wd = -1
      · have : ob = true := by rw [← hob]; simpa using h
        rw [this, if_pos rfl, if_pos h]; rfl
      · have : ob = false := by rw [← hob]; simpa using h
        rw [this, if_neg (by simp), if_neg h, Nat.sub_zero]
    rw [e]
    cases (if wd = -1 then rdOpen (rdT d) o false ((bs.drop p).length + 1) (bs.drop p) else rdMany (rdT d) (ea * m) (bs.drop p)) with
    | error c => rfl
    | ok x => obtain ⟨ts, v⟩ := x; simp)
  have HKD := Lib.hid hkd3; have HEA := Lib.hid hea12
  clear hL hkd hea ho hkd3 hea12 hN
  have hkd2 : kd = 10 ∨ kd = 9 := by have := HKD.out; omega
  have hea2 : ea = 1 ∨ ea = 2 := by have := HEA.out; omega
  have hb1 : Below w.heap.size w ((w.alloc (.cells (cH mj m wd) 56)).alloc (.cells zV 26)) := (below1 w _).trans ((below1 _ _).mono (by simp))
  have HM1 := Lib.hid ((Is.new w (cH mj m wd) 56).alloc (.cells zV 26))
  have HR1 := Lib.hid (Is.new2 w (.cells (cH mj m wd) 56) zV 26)
  have HP1 := Lib.hid (hp.below hb1 hlA)
  have HK1 := Lib.hid (Kp.of_below hb1 (Nat.le_refl _) (Nat.le_of_lt hlA))
  have HE1 := Lib.hid (henv.step HK1.out.1)
  obtain ⟨hlc, hcap⟩ := hp.2.len
  have HU := Lib.hid hp.2.u8
  clear hp henv hb1
  go_enter Tryz.func156, Tryz.ntmps156
  go_upto_region 1 with (fail)
  have hs1 : ((w.alloc (.cells (cH mj m wd) 56)).alloc (.cells zV 26)).heap.size = w.heap.size + 2 := by simp
  obtain ⟨M, hM⟩ : ∃ M, w.heap.size = M := ⟨_, rfl⟩
  rw [hM] at hs1 HM1 HR1
  try rw [hM]
  obtain ⟨R, hR⟩ : ∃ R, M + 1 = R := ⟨_, rfl⟩
  rw [hR] at HR1
  try rw [hR]
  have hMA : A < M := by omega
  have hMR : M < R := by omega
  have hs2 : ((w.alloc (.cells (cH mj m wd) 56)).alloc (.cells zV 26)).heap.size = R + 1 := by omega
  clear hs1 hR
  generalize (w.alloc (.cells (cH mj m wd) 56)).alloc (.cells zV 26) = w1 at *
  have hs3 : R < w1.heap.size := by omega
  go_upto_region 2 with (fail)
  obtain ⟨V, hV⟩ : ∃ V, R + 1 = V := ⟨_, rfl⟩
  have hRV : R < V := by omega
  have HV2 := Lib.hid (show Is (w1.alloc (.cells #[.int .i64 9, .int .i64 0, .int .i64 0, .string ⟨#[]⟩, .slice none 0 0] 26)) V 26 #[.int .i64 9, .int .i64 0, .int .i64 0, .string ⟨#[]⟩, .slice none 0 0] from hV ▸ hs2 ▸ Is.new w1 _ _)
  clear hs2 hs3
  have hb2 := below1 w1 (.cells #[.int .i64 9, .int .i64 0, .int .i64 0, .string ⟨#[]⟩, .slice none 0 0] 26)
  have HR2 := Lib.hid (HR1.out.below hb2 HR1.out.lt)
  have HM2 := Lib.hid (HM1.out.below hb2 HM1.out.lt)
  have HP2 := Lib.hid (HP1.out.below hb2 HP1.out.lt)
  have HK2 := Lib.hid (Kp.grow HK1.out (hb2.mono (Kp.size HK1.out)) (Nat.le_of_lt hlA))
  have HE2 := Lib.hid (HE1.out.step (hb2.mono (Nat.le_of_lt HP1.out.lt)))
  clear HR1 HM1 HP1 HK1 HE1 hb2
  try rw [hV]
  generalize w1.alloc (.cells #[.int .i64 9, .int .i64 0, .int .i64 0, .string ⟨#[]⟩, .slice none 0 0] 26) = w2 at *
  clear hV
  have lV := HV2.out.lt; have lM := HM2.out.lt
  obtain ⟨m0, m1, m2⟩ := HM2.out.cells3
  obtain ⟨v0, v1, v2, v3, v4⟩ := HV2.out.cells5
  have fv := fun i => HV2.out.frozen i
  go_upto_if 14 with (fail)
  go_cut [8] (fun ev wx => ev = .int .i64 (ea : Nat) ∧ Hid (Is wx V 26 #[.int .i64 kd, .int .i64 0, .int .i64 0, .string ⟨#[]⟩, .slice none 0 0]) ∧ Hid (Is wx R 26 zV) ∧ Hid (Is wx M 56 (cH mj m wd)) ∧ Hid (Tr wx A a cap bs (p : Int) 0) ∧ Hid (Kp A w wx) ∧ Hid (Env A wx))
  case first =>
    rcases HKD.out with ⟨b5, rfl, rfl⟩ | ⟨b5, rfl, rfl⟩
    · go_wp2_with fail
      go_meet
      case rel => exact ⟨rfl, Lib.hid (HV2.out.set 0 _), Lib.hid (HR2.out.miss V 0 (by omega) _), Lib.hid (HM2.out.miss V 0 (by omega) _), Lib.hid (HP2.out.miss V 0 (by omega) _), Lib.hid (Kp.set (g := V) HK2.out (by omega) (by omega) 0 _), Lib.hid (HE2.out.step ((below1s w2 V 0 (.int .i64 10)).mono (by omega)))⟩
    · go_wp2_with fail
      go_meet
      case rel => exact ⟨rfl, HV2, HR2, HM2, HP2, HK2, HE2⟩
  case rest =>
    clear HV2 HR2 HM2 HP2 HK2 HE2 m0 m1 m2 v0 v1 v2 v3 v4 fv lV lM HKD
    obtain ⟨rfl, HV, HR, HM, HP, HK, HE⟩ := hcut
    rename World => wx
    have lV := HV.out.lt; have lM := HM.out.lt; have lR := HR.out.lt; have lA := HP.out.lt
    go_wp2_with fail
    go_loopw [9] (fun kv wr => ∃ (k s f : Nat) (ts : List T) (ar : Option Addr) (cr : Nat), kv = .int .i64 k ∧ ts.length = ea * k ∧ (ob = false → k ≤ m) ∧ p ≤ s ∧ s ≤ bs.length ∧ ts.length ≤ s ∧ bs.length - s < f ∧ Hid (App TV 5 26 True wr (V + 1) wr.heap.size ar cr ts) ∧ Hid (Is wr V 26 #[.int .i64 kd, .int .i64 0, .int .i64 0, .string ⟨#[]⟩, .slice ar ts.length cr]) ∧ Hid (Is wr R 26 zV) ∧ Hid (Is wr M 56 (cH mj m wd)) ∧ Hid (Tr wr A a cap bs (s : Int) 0) ∧ Hid (Kp A w wr) ∧ Hid (Env A wr) ∧
      Hid (allT kd ts (s - p) (remT (rdT d) o ob (ea * m) ts.length f (bs.drop s)) = L)) (fun _ wr => bs.length - posT A wr)
    case atStart => exact ⟨0, p, (bs.drop p).length + 1, [], none, 0, rfl, by simp, fun _ => Nat.zero_le _, Nat.le_refl _, hpl, Nat.zero_le _, by rw [List.length_drop]; omega, Lib.hid (App.nil _ _ _), HV, HR, HM, HP, HK, HE, Lib.hid (by rw [Nat.sub_self]; exact HL.out)⟩
    case round =>
      clear HV HR HM HP HK HE HL lV lM lR lA
      obtain ⟨k, s, f, ts, ar, cr, rfl, htl, hkm, hps, hsl, hts, hf, HA, HV, HR, HM, HP, HK, HE, HREL⟩ := hrel
      obtain ⟨f', rfl⟩ : ∃ f', f = f' + 1 := ⟨f - 1, by omega⟩
      have lV := HV.out.lt; have lM := HM.out.lt; have lR := HR.out.lt; have lA := HP.out.lt
      have HPOS := Lib.hid HP.out.pos
      have HTL := Lib.hid htl
      obtain ⟨m0, m1, m2⟩ := HM.out.cells3
      have hk31 : (k : Int) ≤ 1073741824 := by rcases hea2 with rfl | rfl <;> omega
      clear htl
      by_cases hstop : (ob = true ∧ (bs.drop s).getD 0 0 = 255) ∨ (ob = false ∧ ¬ k < m)
      · rcases hstop with ⟨rfl, hend⟩ | ⟨rfl, hkm2⟩
        · have hsl2 : s < bs.length := by
            rcases Nat.lt_or_ge s bs.length with h | h
            · exact h
            · rw [List.drop_eq_nil_of_le h] at hend; simp at hend
          have HLE := Lib.hid (show L = .ok (.mk kd 0 0 ⟨#[]⟩ ts, (s - p) + 1) from by
            rw [← HREL.out, remT_stop hend (by rcases HEA.out with ⟨h1, h2⟩ | ⟨h1, h2⟩; simp [h2]; rw [HTL.out, h1]; omega)]
            simp [allT])
          have HDD := Lib.hid (show decide ((bs.drop s).getD 0 0 = 255) = true from decide_eq_true hend)
          clear HREL hend
          go_wp2_with fail
          refine (impl_tends A a cap bs s wr HP.out hlen).mono ?_
          rintro e w3 ⟨rfl, nq, rfl⟩
          rw [HDD.out]
          have HP3 := Lib.hid (show Tr (wr.drewN nq) A a cap bs (s : Int) 0 from HP.out.below (below_drewN (A + 1) wr nq) (by omega))
          have HV3 := Lib.hid (HV.out.agree (w' := wr.drewN nq) rfl)
          have HR3 := Lib.hid (HR.out.agree (w' := wr.drewN nq) rfl)
          have HA3 := Lib.hid (show App TV 5 26 True (wr.drewN nq) (V + 1) (wr.drewN nq).heap.size ar cr ts from HA.out.agree TV.elem (fun _ _ _ => rfl))
          have HK3 := Lib.hid (HK.out.trans (Kp.drewN (A := A) (w := wr) nq))
          clear HP HV HR HM HA HK HE lV lM lR lA m0 m1 m2
          generalize wr.drewN nq = w3 at *
          have lV := HV3.out.lt; have lR := HR3.out.lt; have lA := HP3.out.lt
          obtain ⟨S1, hS1⟩ : ∃ S1, s + 1 = S1 := ⟨_, rfl⟩
          have hsi : (s : Int) + 1 = (S1 : Int) := by omega
          obtain ⟨z0, z1, z2⟩ := HP3.out.1.cells3
          have fA := fun i => HP3.out.1.frozen i
          go_upto_region 18 with (fail)
          have HP4 := Lib.hid (HP3.out.at (S1 : Int))
          have HV4 := Lib.hid (HV3.out.miss A 1 (by omega) (.int .i64 (S1 : Int)))
          have HR4 := Lib.hid (HR3.out.miss A 1 (by omega) (.int .i64 (S1 : Int)))
          have HA4 := Lib.hid (HA3.out.agree (w' := w3.setCell ⟨A, 1, none⟩ (.int .i64 (S1 : Int))) TV.elem (fun f h1 h2 => heap_miss _ _ _ _ (by omega) _))
          have HK4 := Lib.hid (HK3.out.trans (Kp.cell (A := A) (w := w3) 1 (.int .i64 (S1 : Int))))
          have hs4 : (w3.setCell ⟨A, 1, none⟩ (.int .i64 (S1 : Int))).heap.size = w3.heap.size := by simp
          rw [← hs4] at HA4
          clear HP3 HV3 HR3 HA3 HK3 lV lR lA z0 z1 z2 fA hs4
          generalize w3.setCell ⟨A, 1, none⟩ (.int .i64 (S1 : Int)) = w4 at *
          obtain ⟨v0, v1, v2, v3, v4⟩ := HV4.out.cells5
          obtain ⟨r0, r1, r2, r3, r4⟩ := HR4.out.cells5
          have fr := fun i => HR4.out.frozen i
          have lV3 := HV4.out.lt; have lR3 := HR4.out.lt
          go_wp2_with fail
          obtain ⟨e0, e1, e2, e3, e4, hbel, hold, hsz⟩ := out5 HR4.out.blk (.int .i64 kd) (.int .i64 0) (.int .i64 0) (.string ⟨#[]⟩) (.slice ar ts.length cr) R (Nat.le_refl _)
          refine bodyPost_ret (v := .agg #[.int .i64 kd, .int .i64 0, .int .i64 0, .string ⟨#[]⟩, .slice ar ts.length cr]) (by simp [results, Tryz.results156, go_sem, e0, e1, e2, e3, e4]) rfl
            ⟨.mk kd 0 0 ⟨#[]⟩ ts, ar, cr, rfl, wfL (by omega), ?_, Kp.grow HK4.out (hbel.mono (by omega)) (by omega), Or.inl ⟨(s - p) + 1, HLE.out, by omega, ?_⟩⟩
          · rw [hsz]; exact (HA4.out.agree TV.elem (fun f h1 h2 => hold f (by omega))).more (by omega) (Nat.le_refl _)
          · rw [show p + (s - p + 1) = S1 from by omega]
            exact HP4.out.below hbel (by omega)
        · have hkk : k = m := by have := hkm rfl; omega
          have hltz : ¬ (k : Int) < (m : Int) := by omega
          have HLE := Lib.hid (show L = .ok (.mk kd 0 0 ⟨#[]⟩ ts, s - p) from by
            rw [← HREL.out, HTL.out, hkk, remT_done]; simp [allT])
          clear HREL hkk hkm2
          obtain ⟨v0, v1, v2, v3, v4⟩ := HV.out.cells5
          obtain ⟨r0, r1, r2, r3, r4⟩ := HR.out.cells5
          have fr := fun i => HR.out.frozen i
          go_wp2_with fail
          obtain ⟨e0, e1, e2, e3, e4, hbel, hold, hsz⟩ := out5 HR.out.blk (.int .i64 kd) (.int .i64 0) (.int .i64 0) (.string ⟨#[]⟩) (.slice ar ts.length cr) R (Nat.le_refl _)
          refine bodyPost_ret (v := .agg #[.int .i64 kd, .int .i64 0, .int .i64 0, .string ⟨#[]⟩, .slice ar ts.length cr]) (by simp [results, Tryz.results156, go_sem, e0, e1, e2, e3, e4]) rfl
            ⟨.mk kd 0 0 ⟨#[]⟩ ts, ar, cr, rfl, wfL (by omega), ?_, Kp.grow HK.out (hbel.mono (by omega)) (by omega), Or.inl ⟨s - p, HLE.out, by omega, ?_⟩⟩
          · rw [hsz]; exact (HA.out.agree TV.elem (fun f h1 h2 => hold f (by omega))).more (by omega) (Nat.le_refl _)
          · rw [show p + (s - p) = s from by omega]
            exact HP.out.below hbel (by omega)
      have HG1 := Lib.hid (show ob = true → ¬ (bs.drop s).getD 0 0 = 255 from fun h1 h2 => hstop (Or.inl ⟨h1, h2⟩))
      have HG2 := Lib.hid (show ob = false → k < m from fun h1 => by
        rcases Nat.lt_or_ge k m with h | h
        · exact h
        · exact absurd (Or.inr ⟨h1, by omega⟩) hstop)
      clear hstop hkm
      have HOB := Lib.hid hob
      cases ob
      case' false =>
        have hltz : (k : Int) < (m : Int) := by have := HG2.out rfl; omega
        go_upto_region 9 with (fail)
        rename World => w3
        have HP3 := HP; have HV3 := HV; have HR3 := HR; have HM3 := HM; have HA3 := HA; have HK3 := HK; have HE3 := HE
        clear HP HV HR HM HA HK HE lV lM lR lA m0 m1 m2 hltz
      case' true =>
        have HDD := Lib.hid (show decide ((bs.drop s).getD 0 0 = 255) = false from decide_eq_false (HG1.out rfl))
        go_wp2_with fail
        refine (impl_tends A a cap bs s wr HP.out hlen).mono ?_
        rintro e w3 ⟨rfl, nq, rfl⟩
        rw [HDD.out]
        go_upto_region 9 with (fail)
        have HP3 := Lib.hid (show Tr (wr.drewN nq) A a cap bs (s : Int) 0 from HP.out.below (below_drewN (A + 1) wr nq) (by omega))
        have HV3 := Lib.hid (HV.out.agree (w' := wr.drewN nq) rfl)
        have HR3 := Lib.hid (HR.out.agree (w' := wr.drewN nq) rfl)
        have HM3 := Lib.hid (HM.out.agree (w' := wr.drewN nq) rfl)
        have HA3 := Lib.hid (show App TV 5 26 True (wr.drewN nq) (V + 1) (wr.drewN nq).heap.size ar cr ts from HA.out.agree TV.elem (fun _ _ _ => rfl))
        have HK3 := Lib.hid (HK.out.trans (Kp.drewN (A := A) (w := wr) nq))
        have HE3 := Lib.hid (HE.out.step (below_drewN A wr nq))
        clear HP HV HR HM HA HK HE lV lM lR lA HDD m0 m1 m2
        generalize wr.drewN nq = w3 at *
      all_goals
        go_wp2_with fail
        go_loopw [42] (fun iv wi => ∃ (i s2 f2 : Nat) (ts2 : List T) (ar2 : Option Addr) (cr2 : Nat), iv = .int .i64 i ∧ i ≤ ea ∧ ts2.length = ea * k + i ∧ p ≤ s2 ∧ s2 ≤ bs.length ∧ ts2.length ≤ s2 ∧ bs.length - s2 < f2 ∧ (i = 0 → s2 = s) ∧ (0 < i → s < s2) ∧ Hid (App TV 5 26 True wi (V + 1) wi.heap.size ar2 cr2 ts2) ∧ Hid (Is wi V 26 #[.int .i64 kd, .int .i64 0, .int .i64 0, .string ⟨#[]⟩, .slice ar2 ts2.length cr2]) ∧ Hid (Is wi R 26 zV) ∧ Hid (Is wi M 56 (cH mj m wd)) ∧ Hid (Tr wi A a cap bs (s2 : Int) 0) ∧ Hid (Kp A w wi) ∧ Hid (Env A wi) ∧
          Hid (allT kd ts2 (s2 - p) (remT (rdT d) o _ (ea * m) ts2.length f2 (bs.drop s2)) = L)) (fun iv _ => ea - (intOf iv).toNat)
        case atStart => exact ⟨0, s, f' + 1, ts, ar, cr, rfl, Nat.zero_le _, HTL.out, hps, hsl, hts, hf, fun _ => rfl, fun h => absurd h (Nat.lt_irrefl 0), HA3, HV3, HR3, HM3, HP3, HK3, HE3, HREL⟩
        case round =>
          rename World => wi
          clear HREL HP3 HV3 HR3 HM3 HA3 HK3 HE3
          obtain ⟨i, s2, f2, ts2, ar2, cr2, rfl, hie, htl2, hps2, hsl2, hts2, hf2, hi0, hi1, HA, HV, HR, HM, HP, HK, HE, HREL⟩ := hrel
          obtain ⟨fz, rfl⟩ : ∃ fz, f2 = fz + 1 := ⟨f2 - 1, by omega⟩
          have HTL2 := Lib.hid htl2; clear htl2
          have lV := HV.out.lt; have lM := HM.out.lt; have lR := HR.out.lt; have lA := HP.out.lt
          obtain ⟨m0, m1, m2⟩ := HM.out.cells3
          by_cases hie2 : i < ea
          · have hltz : (i : Int) < (ea : Int) := by omega
            have hi01 : i = 0 ∨ (i = 1 ∧ ea = 2) := by omega
            by_cases hbe : (wd == -1) = true ∧ i = 1 ∧ (bs.drop s2).getD 0 0 = 255
            · first
              | (exfalso; rw [hob] at hbe; exact absurd hbe.1 (by decide))
              | (obtain ⟨_, rfl, hend⟩ := hbe
                 have HLE := Lib.hid (show L = .error 1 from by
                   rw [← HREL.out, remT_bad hend (by rcases HEA.out with ⟨h1, h2⟩ | ⟨h1, h2⟩; exact absurd hie2 (by omega); exact ⟨h2, by rw [HTL2.out, h1]; omega⟩)]; rfl)
                 have HDD := Lib.hid (show decide ((bs.drop s2).getD 0 0 = 255) = true from decide_eq_true hend)
                 clear HREL hend hi0 hi1
                 go_wp2_with fail
                 refine (impl_tends A a cap bs s2 wi HP.out hlen).mono ?_
                 rintro e w4 ⟨rfl, nq4, rfl⟩
                 rw [HDD.out]
                 have HP4 := Lib.hid (show Tr (wi.drewN nq4) A a cap bs (s2 : Int) 0 from HP.out.below (below_drewN (A + 1) wi nq4) (by omega))
                 have HR4 := Lib.hid (HR.out.agree (w' := wi.drewN nq4) rfl)
                 have HK4 := Lib.hid (HK.out.trans (Kp.drewN (A := A) (w := wi) nq4))
                 clear HP HV HR HM HA HK HE lV lM lR lA m0 m1 m2 HDD
                 generalize wi.drewN nq4 = w4 at *
                 go_wp2_with fail
                 refine (impl_tfail A a cap bs (s2 : Int) 1 _ HP4.out).mono ?_
                 rintro e w8 ⟨rfl, hp8, hk8⟩
                 have p8 := hk8.is HR4.out (by omega)
                 have f8 := fun i => p8.frozen i
                 have l8 := p8.lt
                 obtain ⟨o0, o1, o2, o3, o4⟩ := p8.cells5
                 dsimp only
                 repeat (first | go_values | go_skip | go_guarded | go_step | go_upon)
                 obtain ⟨e0, e1, e2, e3, e4, hbel, hold, hsz⟩ := out5 p8.blk (.int .i64 0) (.int .i64 0) (.int .i64 0) (.string ⟨#[]⟩) (.slice none 0 0) R (Nat.le_refl _)
                 refine bodyPost_ret (v := .agg zV) (by simp [results, Tryz.results156, go_sem, e0, e1, e2, e3, e4]) rfl (TdO.fail HLE.out (Or.inl rfl) (hp8.below hbel (by omega)) (Kp.grow (HK4.out.trans hk8) (hbel.mono (by omega)) (by omega))))
            have HH1 := Lib.hid (show (wd == -1) = true → ¬ (bs.drop s2).getD 0 0 = 255 from fun h1 h2 => by
              rcases hi01 with h | ⟨h, _⟩
              · rw [hi0 h] at h2; exact HG1.out (by first | trivial | exact hob.symm.trans h1 | exact h1) h2
              · exact hbe ⟨h1, h, h2⟩)
            have HH2 := Lib.hid (show (wd == -1) = false → ts2.length < ea * m from fun h1 => by
              have hk := HG2.out (by first | trivial | exact hob.symm.trans h1 | exact h1)
              have := Nat.mul_le_mul_left ea (show k + 1 ≤ m from hk)
              rw [HTL2.out]; rw [Nat.mul_succ] at this; omega)
            have HNX := Lib.hid (remT_next (g := rdT d) (o := o) (ob := (wd == -1)) (N := ea * m) (J := ts2.length) (f := fz) (l := bs.drop s2) HH1.out HH2.out)
            rw [hob] at HNX
            have hss2 : s ≤ s2 := by
              rcases hi01 with h | ⟨h, _⟩
              · have := hi0 h; omega
              · have := hi1 (by omega); omega
            clear HH1 HH2 hi0
            rcases hi01 with rfl | ⟨rfl, hea⟩
            case' inl =>
              clear hbe
              go_upto_region 14 with (fail)
              rename World => wz
              have HP4 := HP; have HV4 := HV; have HR4 := HR; have HM4 := HM; have HA4 := HA; have HK4 := HK; have HE4 := HE
              clear HP HV HR HM HA HK HE lV lM lR lA m0 m1 m2
            case' inr =>
              have HBE := Lib.hid hbe; clear hbe
              have HEA2 := Lib.hid hea; clear hea
              first
              | (have hguard : (wd == -1) = false := hob
                 clear hguard
                 go_upto_region 14 with (fail)
                 rename World => wz
                 have HP4 := HP; have HV4 := HV; have HR4 := HR; have HM4 := HM; have HA4 := HA; have HK4 := HK; have HE4 := HE
                 clear HP HV HR HM HA HK HE lV lM lR lA m0 m1 m2)
              | (have HDD := Lib.hid (show decide ((bs.drop s2).getD 0 0 = 255) = false from decide_eq_false (fun h => HBE.out ⟨hob, rfl, h⟩))
                 go_wp2_with fail
                 refine (impl_tends A a cap bs s2 wi HP.out hlen).mono ?_
                 rintro e w4 ⟨rfl, nq4, rfl⟩
                 rw [HDD.out]
                 go_upto_region 14 with (fail)
                 have HP4 := Lib.hid (show Tr (wi.drewN nq4) A a cap bs (s2 : Int) 0 from HP.out.below (below_drewN (A + 1) wi nq4) (by omega))
                 have HV4 := Lib.hid (HV.out.agree (w' := wi.drewN nq4) rfl)
                 have HR4 := Lib.hid (HR.out.agree (w' := wi.drewN nq4) rfl)
                 have HM4 := Lib.hid (HM.out.agree (w' := wi.drewN nq4) rfl)
                 have HA4 := Lib.hid (show App TV 5 26 True (wi.drewN nq4) (V + 1) (wi.drewN nq4).heap.size ar2 cr2 ts2 from HA.out.agree TV.elem (fun _ _ _ => rfl))
                 have HK4 := Lib.hid (HK.out.trans (Kp.drewN (A := A) (w := wi) nq4))
                 have HE4 := Lib.hid (HE.out.step (below_drewN A wi nq4))
                 clear HP HV HR HM HA HK HE lV lM lR lA m0 m1 m2 HDD
                 generalize wi.drewN nq4 = wz at *)
            all_goals
              have IHK := Lib.hid (fun (W : World) (hp : Tr W A a cap bs (s2 : Int) 0) (he : Env A W) => IH.out (deep - 1) s2 W HD.out ⟨by omega, by omega⟩ hsl2 hp he)
              have HPD := Lib.hid (HP4.out.below (Below.refl (A + 1) wz).drew (by omega))
              have HED := Lib.hid (HE4.out.step (Below.refl A wz).drew)
              have HKD := Lib.hid (show Kp A wz wz.drew from ⟨(Below.refl _ _).drew, fun _ _ _ => rfl⟩)
              have ff := fun i => HV4.out.frozen i
              obtain ⟨v0, v1, v2, v3, v4⟩ := HV4.out.cells5
              have lV := HV4.out.lt
              have hdw : IntKind.i64.wrap (deep - 1) = deep - 1 := by rw [Go.IntWalk.i64_left, Go.IntWalk.wrap64_in _ ⟨by omega, by omega⟩]
              refine wp_region_held_drew (S := fun _ => True) (by kernel_rfl) trivial (fun hHeld => ?_)
              refine tkS 0 58 rfl ?_
              refine tkS 2 60 rfl ?_
              refine tkS 3 61 rfl ?_
              refine tkS 4 62 rfl ?_
              refine wpAnyH_ready (rs := [1, 5]) (by kernel_rfl) (by simp) ?_
              refine AllReadyH.cons (o := ⟨some 59, _, _, _, _, _⟩) rfl (fun K hK => ?_) ?_
              focus (go_simp; go_wp2_with fail; refine hK.out _ _ trivial (fun hHeld => ?_); clear hK K; try simp only [Act.put, tkL, tkZ, tkN])
              refine wpAnyH_ready (rs := [5]) (by kernel_rfl) (by simp) ?_
              refine AllReadyH.cons (o := ⟨some 63, _, _, _, _, _⟩) rfl (fun K hK => ?_) AllReadyH.nil
              focus (go_simp; ((go_at_call 95; refine (IHK.out _ HPD.out HED.out).mono ?_; rintro e w5 ⟨t5, a5, c5, rfl, htw5, happ5, hk5, hcase⟩; have HC5 := Lib.hid hcase; clear hcase; have HK5 := Lib.hid (show Kp A wz w5 from HKD.out.trans hk5); have hx5 := HK5.out.is HV4.out (by omega); have ff5 := (fun i => hx5.frozen i); have lg5 := hx5.lt; obtain ⟨v0, v1, v2, v3, v4⟩ := hx5.cells5; obtain ⟨G, g1, g2, g3⟩ := Own.ow.2 happ5.own; (simp only [World.size_drew] at g3))); go_wp2_with fail; refine hK.out _ _ trivial (fun hHeld => ?_); clear hK K; try simp only [Act.put, tkL, tkZ, tkN])
              refine wpAnyH_ready (rs := [6]) (by kernel_rfl) (by simp) ?_
              refine AllReadyH.cons (o := ⟨some 64, _, _, _, _, _⟩) rfl (fun K hK => ?_) AllReadyH.nil
              focus (go_simp; go_wp2_with fail; refine hK.out _ _ trivial (fun hHeld => ?_); clear hK K; try simp only [Act.put, tkL, tkZ, tkN])
              refine wpAnyH_ready (rs := [7]) (by kernel_rfl) (by simp) ?_
              refine AllReadyH.cons (o := ⟨some 65, _, _, _, _, _⟩) rfl (fun K hK => ?_) AllReadyH.nil
              focus (((obtain ⟨a6, c6, w6, hrun, happ6, hb6, hout6, hsz6⟩ := run_app (P := Tryz.prog) (w5.alloc (.cells (cV t5 a5 c5) 26)) TV.elem 24 24 (.agg zV) 64 Tryz.underlying24 info_Val rfl (V + 1) wz.heap.size ar2 cr2 ts2 ((HA4.out.kp TV.elem HK5.out (by omega) (Nat.le_refl _)).below TV.elem (below1 w5 _) HK5.out.size) (by have := HK5.out.size; simp; omega) (by omega) (some ⟨w5.heap.size, 0, none⟩) 1 [t5] G (Srcs.one (TV.box 26 g1 htw5 (fun f hf => (g3 f hf).2.2.lt))) g2 (fun f hf => ⟨(g3 f hf).1, by have := (g3 f hf).2.1; simp; omega, (g3 f hf).2.2.alloc _⟩) (by simp [maxLen]; omega) (by simp; omega); obtain ⟨ts3, hts3⟩ : ∃ ts3, ts2 ++ [t5] = ts3 := ⟨_, rfl⟩; rw [hts3] at hrun happ6; have HT3 := Lib.hid hts3; clear hts3; refine step_append_run _ rfl _ _ _ _ rfl _ _ rfl rfl _ _ hrun ?_; have hx6 := (hx5.alloc (.cells (cV t5 a5 c5) 26)).agree (hout6 V (by simp; omega) (fun k hk e => by have := (HA4.out.row k hk).1; omega)); have ff6 := (fun i => hx6.frozen i); have lg6 := hx6.lt; obtain ⟨y0, y1, y2, y3, y4⟩ := hx6.cells5)); refine hK.out _ _ trivial (fun hHeld => ?_); clear hK K; try simp only [Act.put, tkL, tkZ, tkN])
              refine tkS 8 66 rfl ?_
              refine wpAnyH_ready (rs := [9]) (by kernel_rfl) (by simp) ?_
              refine AllReadyH.cons (o := ⟨none, _, _, _, _, _⟩) rfl (fun K hK => ?_) AllReadyH.nil
              focus (go_simp; go_wp2_with fail; refine hK.out _ _ trivial (fun hHeld => ?_); clear hK K; try simp only [Act.put])
              refine tkE ?_
              rotate_left 1
              refine AllReadyH.cons (o := ⟨some 63, _, _, _, _, _⟩) rfl (fun K hK => ?_) AllReadyH.nil
              focus (go_simp; ((go_at_call 95; refine (IHK.out _ HPD.out HED.out).mono ?_; rintro e w5 ⟨t5, a5, c5, rfl, htw5, happ5, hk5, hcase⟩; have HC5 := Lib.hid hcase; clear hcase; have HK5 := Lib.hid (show Kp A wz w5 from HKD.out.trans hk5); have hx5 := HK5.out.is HV4.out (by omega); have ff5 := (fun i => hx5.frozen i); have lg5 := hx5.lt; obtain ⟨v0, v1, v2, v3, v4⟩ := hx5.cells5; obtain ⟨G, g1, g2, g3⟩ := Own.ow.2 happ5.own; (simp only [World.size_drew] at g3))); go_wp2_with fail; refine hK.out _ _ trivial (fun hHeld => ?_); clear hK K; try simp only [Act.put, tkL, tkZ, tkN])
              refine wpAnyH_ready (rs := [1, 6]) (by kernel_rfl) (by simp) ?_
              refine AllReadyH.cons (o := ⟨some 59, _, _, _, _, _⟩) rfl (fun K hK => ?_) ?_
              focus (go_simp; go_wp2_with fail; refine hK.out _ _ trivial (fun hHeld => ?_); clear hK K; try simp only [Act.put, tkL, tkZ, tkN])
              refine wpAnyH_ready (rs := [6]) (by kernel_rfl) (by simp) ?_
              refine AllReadyH.cons (o := ⟨some 64, _, _, _, _, _⟩) rfl (fun K hK => ?_) AllReadyH.nil
              focus (go_simp; go_wp2_with fail; refine hK.out _ _ trivial (fun hHeld => ?_); clear hK K; try simp only [Act.put, tkL, tkZ, tkN])
              refine wpAnyH_ready (rs := [7]) (by kernel_rfl) (by simp) ?_
              refine AllReadyH.cons (o := ⟨some 65, _, _, _, _, _⟩) rfl (fun K hK => ?_) AllReadyH.nil
              focus (((obtain ⟨a6, c6, w6, hrun, happ6, hb6, hout6, hsz6⟩ := run_app (P := Tryz.prog) (w5.alloc (.cells (cV t5 a5 c5) 26)) TV.elem 24 24 (.agg zV) 64 Tryz.underlying24 info_Val rfl (V + 1) wz.heap.size ar2 cr2 ts2 ((HA4.out.kp TV.elem HK5.out (by omega) (Nat.le_refl _)).below TV.elem (below1 w5 _) HK5.out.size) (by have := HK5.out.size; simp; omega) (by omega) (some ⟨w5.heap.size, 0, none⟩) 1 [t5] G (Srcs.one (TV.box 26 g1 htw5 (fun f hf => (g3 f hf).2.2.lt))) g2 (fun f hf => ⟨(g3 f hf).1, by have := (g3 f hf).2.1; simp; omega, (g3 f hf).2.2.alloc _⟩) (by simp [maxLen]; omega) (by simp; omega); obtain ⟨ts3, hts3⟩ : ∃ ts3, ts2 ++ [t5] = ts3 := ⟨_, rfl⟩; rw [hts3] at hrun happ6; have HT3 := Lib.hid hts3; clear hts3; refine step_append_run _ rfl _ _ _ _ rfl _ _ rfl rfl _ _ hrun ?_; have hx6 := (hx5.alloc (.cells (cV t5 a5 c5) 26)).agree (hout6 V (by simp; omega) (fun k hk e => by have := (HA4.out.row k hk).1; omega)); have ff6 := (fun i => hx6.frozen i); have lg6 := hx6.lt; obtain ⟨y0, y1, y2, y3, y4⟩ := hx6.cells5)); refine hK.out _ _ trivial (fun hHeld => ?_); clear hK K; try simp only [Act.put, tkL, tkZ, tkN])
              refine tkS 8 66 rfl ?_
              refine wpAnyH_ready (rs := [9]) (by kernel_rfl) (by simp) ?_
              refine AllReadyH.cons (o := ⟨none, _, _, _, _, _⟩) rfl (fun K hK => ?_) AllReadyH.nil
              focus (go_simp; go_wp2_with fail; refine hK.out _ _ trivial (fun hHeld => ?_); clear hK K; try simp only [Act.put])
              refine tkE ?_
              rotate_left 1
              refine AllReadyH.cons (o := ⟨some 64, _, _, _, _, _⟩) rfl (fun K hK => ?_) AllReadyH.nil
              focus (go_simp; go_wp2_with fail; refine hK.out _ _ trivial (fun hHeld => ?_); clear hK K; try simp only [Act.put, tkL, tkZ, tkN])
              refine wpAnyH_ready (rs := [1]) (by kernel_rfl) (by simp) ?_
              refine AllReadyH.cons (o := ⟨some 59, _, _, _, _, _⟩) rfl (fun K hK => ?_) AllReadyH.nil
              focus (go_simp; go_wp2_with fail; refine hK.out _ _ trivial (fun hHeld => ?_); clear hK K; try simp only [Act.put, tkL, tkZ, tkN])
              refine wpAnyH_ready (rs := [7]) (by kernel_rfl) (by simp) ?_
              refine AllReadyH.cons (o := ⟨some 65, _, _, _, _, _⟩) rfl (fun K hK => ?_) AllReadyH.nil
              focus (((obtain ⟨a6, c6, w6, hrun, happ6, hb6, hout6, hsz6⟩ := run_app (P := Tryz.prog) (w5.alloc (.cells (cV t5 a5 c5) 26)) TV.elem 24 24 (.agg zV) 64 Tryz.underlying24 info_Val rfl (V + 1) wz.heap.size ar2 cr2 ts2 ((HA4.out.kp TV.elem HK5.out (by omega) (Nat.le_refl _)).below TV.elem (below1 w5 _) HK5.out.size) (by have := HK5.out.size; simp; omega) (by omega) (some ⟨w5.heap.size, 0, none⟩) 1 [t5] G (Srcs.one (TV.box 26 g1 htw5 (fun f hf => (g3 f hf).2.2.lt))) g2 (fun f hf => ⟨(g3 f hf).1, by have := (g3 f hf).2.1; simp; omega, (g3 f hf).2.2.alloc _⟩) (by simp [maxLen]; omega) (by simp; omega); obtain ⟨ts3, hts3⟩ : ∃ ts3, ts2 ++ [t5] = ts3 := ⟨_, rfl⟩; rw [hts3] at hrun happ6; have HT3 := Lib.hid hts3; clear hts3; refine step_append_run _ rfl _ _ _ _ rfl _ _ rfl rfl _ _ hrun ?_; have hx6 := (hx5.alloc (.cells (cV t5 a5 c5) 26)).agree (hout6 V (by simp; omega) (fun k hk e => by have := (HA4.out.row k hk).1; omega)); have ff6 := (fun i => hx6.frozen i); have lg6 := hx6.lt; obtain ⟨y0, y1, y2, y3, y4⟩ := hx6.cells5)); refine hK.out _ _ trivial (fun hHeld => ?_); clear hK K; try simp only [Act.put, tkL, tkZ, tkN])
              refine tkS 8 66 rfl ?_
              refine wpAnyH_ready (rs := [9]) (by kernel_rfl) (by simp) ?_
              refine AllReadyH.cons (o := ⟨none, _, _, _, _, _⟩) rfl (fun K hK => ?_) AllReadyH.nil
              focus (go_simp; go_wp2_with fail; refine hK.out _ _ trivial (fun hHeld => ?_); clear hK K; try simp only [Act.put])
              refine tkE ?_
              all_goals
                have HR6 := Lib.hid (((HK5.out.is HR4.out (by omega)).alloc (.cells (cV t5 a5 c5) 26)).below hb6 (by omega))
                have HM6 := Lib.hid (((HK5.out.is HM4.out (by omega)).alloc (.cells (cV t5 a5 c5) 26)).below hb6 (by omega))
                have hA5 : A < w5.heap.size := by omega
                have HK6 := Lib.hid (Kp.grow (HK4.out.trans (HK5.out.trans (Kp.alloc (Nat.le_of_lt hA5) (.cells (cV t5 a5 c5) 26)))) (hb6.mono (by omega)) (Nat.le_of_lt hlA))
                have HE6 := Lib.hid (((HE4.out.step HK5.out.1).step ((below1 w5 (.cells (cV t5 a5 c5) 26)).mono (Nat.le_of_lt hA5))).step (hb6.mono (by omega)))
                have HV7 := Lib.hid (hx6.set 4 (.slice a6 ts3.length c6))
                have HR7 := Lib.hid (HR6.out.miss V 4 (by omega) (.slice a6 ts3.length c6))
                have HM7 := Lib.hid (HM6.out.miss V 4 (by omega) (.slice a6 ts3.length c6))
                have HK7 := Lib.hid (Kp.set (g := V) HK6.out (by omega) (by omega) 4 (.slice a6 ts3.length c6))
                have HE7 := Lib.hid (HE6.out.step ((below1s w6 V 4 (.slice a6 ts3.length c6)).mono (by omega)))
                have HA7 := Lib.hid (show App TV 5 26 True (w6.setCell ⟨V, 4, none⟩ (.slice a6 ts3.length c6)) (V + 1) (w6.setCell ⟨V, 4, none⟩ (.slice a6 ts3.length c6)).heap.size a6 c6 ts3 from by
                  rw [size_set]; exact happ6.agree TV.elem (fun f hf _ => heap_miss _ _ _ _ (by omega) _))
                have HC7 := Lib.hid (show (∃ u, rdT d (bs.drop s2) = .ok (t5, u) ∧ s2 + u ≤ bs.length ∧ Tr (w6.setCell ⟨V, 4, none⟩ (.slice a6 ts3.length c6)) A a cap bs ((s2 + u : Nat) : Int) 0) ∨ (∃ c q, rdT d (bs.drop s2) = .error c ∧ (c = 1 ∨ c = 2) ∧ Tr (w6.setCell ⟨V, 4, none⟩ (.slice a6 ts3.length c6)) A a cap bs q c) from by
                  rcases HC5.out with ⟨u, hok, hpu, ht5⟩ | ⟨c, q, herr, hc, ht5⟩
                  · exact Or.inl ⟨u, hok, hpu, ((ht5.below (below1 w5 (.cells (cV t5 a5 c5) 26)) ht5.lt).below hb6 (by omega)).miss V 4 (by omega) _⟩
                  · exact Or.inr ⟨c, q, herr, hc, ((ht5.below (below1 w5 (.cells (cV t5 a5 c5) 26)) ht5.lt).below hb6 (by omega)).miss V 4 (by omega) _⟩)
                go_upto_region 15 with (fail)
                clear HC5 HR6 HM6 HK6 HE6 happ6 hx6 hx5 ff6 lg6 y0 y1 y2 y3 y4 hout6 hsz6 hrun hb6 HK5 ff5 lg5 g1 g2 g3 happ5 hk5 HPD HED HKD HP4 HV4 HR4 HM4 HA4 HK4 HE4 hA5 ff
                generalize w6.setCell ⟨V, 4, none⟩ (.slice a6 ts3.length c6) = w7 at *
                have lV7 := HV7.out.lt; have lR7 := HR7.out.lt
                rcases HC7.out with ⟨u, hok, hpu, ht7⟩ | ⟨c, q, herr, hc, ht7⟩
                · have hu1 := rdT_pos (fun x hx => HU.out x (List.mem_of_mem_drop hx)) hok
                  have HL3 := Lib.hid (show ts3.length = ts2.length + 1 from by rw [← HT3.out]; simp)
                  have HRN := Lib.hid (show allT kd ts3 (s2 + u - p) (remT (rdT d) o _ (ea * m) ts3.length fz (bs.drop (s2 + u))) = L from by
                    rw [← HT3.out, ← HREL.out, HNX.out, hok, allT_next, List.drop_drop, List.length_append, show s2 - p + u = s2 + u - p from by omega]; rfl)
                  have HP7 := Lib.hid ht7
                  clear HREL HNX hok ht7 HC7
                  obtain ⟨z0, z1, z2⟩ := HP7.out.1.cells3
                  have lA7 := HP7.out.lt
                  go_wp2_with fail
                  go_roundw
                  case rel => first | exact ⟨1, s2 + u, fz, ts3, a6, c6, by go_num, by omega, by have h1 := HL3.out; have h2 := HTL2.out; omega, by omega, by omega, by have := HL3.out; omega, by omega, fun h => by omega, fun _ => by omega, HA7, HV7, HR7, HM7, HP7, HK7, HE7, HRN⟩ | exact ⟨2, s2 + u, fz, ts3, a6, c6, by go_num, by omega, by have h1 := HL3.out; have h2 := HTL2.out; omega, by omega, by omega, by have := HL3.out; omega, by omega, fun h => by omega, fun _ => by omega, HA7, HV7, HR7, HM7, HP7, HK7, HE7, HRN⟩
                  case measure => simp [intOf]; omega
                · have HLE := Lib.hid (show L = .error c from by rw [← HREL.out, HNX.out, herr]; rfl)
                  have hcb : (c != 0) = true := by simp; omega
                  have HCC := Lib.hid hc
                  have HP7 := Lib.hid ht7
                  clear HREL HNX herr hc ht7 HC7
                  obtain ⟨z0, z1, z2⟩ := HP7.out.1.cells3
                  have lA7 := HP7.out.lt
                  obtain ⟨o0, o1, o2, o3, o4⟩ := HR7.out.cells5
                  have fr := fun i => HR7.out.frozen i
                  go_upto_region 16 with (fail)
                  clear z0 z1 z2 v0 v1 v2 v3 v4 hdw hltz
                  repeat (first | go_values | go_skip | go_guarded | go_step | go_upon)
                  obtain ⟨e0, e1, e2, e3, e4, hbel, hold, hsz⟩ := out5 HR7.out.blk (.int .i64 0) (.int .i64 0) (.int .i64 0) (.string ⟨#[]⟩) (.slice none 0 0) R (Nat.le_refl _)
                  refine bodyPost_ret (v := .agg zV) (by simp [results, Tryz.results156, go_sem, e0, e1, e2, e3, e4]) rfl (TdO.fail HLE.out HCC.out (HP7.out.below hbel (by omega)) (Kp.grow HK7.out (hbel.mono (by omega)) (by omega)))
          · have hiea : i = ea := by omega
            have hltz : ¬ (i : Int) < (ea : Int) := by omega
            have hss : s < s2 := hi1 (by omega)
            clear hi0 hi1 hie2
            go_wp2_with fail
            go_roundw
            case rel => exact ⟨k + 1, s2, fz + 1, ts2, ar2, cr2, by go_num, by rw [HTL2.out, hiea, Nat.mul_succ], fun h => by have := HG2.out h; omega, hps2, hsl2, hts2, hf2, HA, HV, HR, HM, HP, HK, HE, HREL⟩
            case measure => rw [HP.out.pos, HPOS.out]; omega
end Go.Proofs.YtggdenkmohnijaaGreatDoor
