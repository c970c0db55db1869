/- Texts of this proof, merged: TigV, TigZ, TgL, TgM, TgN, Div, Div2, Near1, Near3, Near2, Near4, Half1, LeafP, LawTights, PgP. No condition beyond what each theorem states. -/
import Derived.Test.YtggdenkmohnijaaGreatDoorZO29
import Derived.Test.YtggdenkmohnijaaGreatDoorZO28
import Derived.Laws.BitsLemmas
import Derived.Lib.Mul64
import Derived.Shelf.Bits.Mul64
import Derived.Test.YtggdenkmohnijaaGreatDoorZO25
set_option linter.unusedSimpArgs false
set_option linter.unnecessarySimpa false
namespace Go.Proofs.YtggdenkmohnijaaGreatDoor
open Go.ChangeShapes Go.WideShapes Go.ChangeAt Go.RowKit Go.Joins
set_option linter.unusedVariables false
set_option maxRecDepth 100000
theorem wfT {n : Int} {ts : List T} (hn : 0 ≤ n ∧ n ≤ 1000000000000000) : Wf (.mk 11 n 0 ⟨#[]⟩ ts) := ⟨by show I64 11; exact ⟨by decide, by decide⟩, by show I64 n; exact ⟨by omega, by omega⟩, by show I64 0; exact ⟨by decide, by decide⟩, by show (⟨#[]⟩ : ByteArray).size ≤ maxLen; exact Nat.zero_le _⟩
theorem App.cell {w : World} {lo s : Nat} {x : T} {F : List Nat} {cs : Array Value} {e : TypeId} (hs : w.heap.size = s) (hx : TV (w.alloc (.cells cs e)) s 0 x F) (hF : F.Nodup) (hF2 : ∀ f ∈ F, lo ≤ f ∧ f < s ∧ Unf w f) (hc : cs.size = 5) (hl : lo ≤ s) : App TV 5 e True (w.alloc (.cells cs e)) lo (w.alloc (.cells cs e)).heap.size (some ⟨s, 0, none⟩) 1 [x] := by
 subst hs
 exact Or.inr ⟨w.heap.size, cs, F, rfl, hl, by simp, heap_alloc_new w _, by simp, by simp [maxLen], by omega, ⟨F, [], by simp, hx, rfl⟩, fun hm => by have := (hF2 _ hm).2.1; omega, fun _ => hF, fun f hf => ⟨(hF2 f hf).1, by have := (hF2 f hf).2.1; simp; omega, (hF2 f hf).2.2.alloc _⟩⟩
theorem TdO.up {A : Nat} {a : Option Addr} {cap : Nat} {bs : List Int} {p q u R : Nat} {w3 w4 : World} {t : T} {L r1 : Except Int (T × Nat)} (hq : p + u = q) (hL : L = (match r1 with | .error c => .error c | .ok (t, v) => .ok (t, u + v)))
  (h : (∃ v, r1 = .ok (t, v) ∧ q + v ≤ bs.length ∧ Tr w3 A a cap bs ((q + v : Nat) : Int) 0) ∨ (∃ c q', r1 = .error c ∧ (c = 1 ∨ c = 2) ∧ Tr w3 A a cap bs q' c)) (hb : Below R w3 w4) (hR : A < R) :
  (∃ v, L = .ok (t, v) ∧ p + v ≤ bs.length ∧ Tr w4 A a cap bs ((p + v : Nat) : Int) 0) ∨ (∃ c q', L = .error c ∧ (c = 1 ∨ c = 2) ∧ Tr w4 A a cap bs q' c) := by
 rcases h with ⟨v, h1, h2, h3⟩ | ⟨c, q', h1, h2, h3⟩
 ·exact Or.inl ⟨u + v, by rw [hL, h1], by omega, by rw [show p + (u + v) = q + v from by omega]; exact h3.below hb hR⟩
 ·exact Or.inr ⟨c, q', by rw [hL, h1], h2, h3.below hb hR⟩
set_option maxHeartbeats 16000000 in
theorem tvalue_step (A : Nat) (a : Option Addr) (cap : Nat) (bs : List Int) (hlen : bs.length ≤ 1073741824) (d : Nat)
    (ih : ∀ (deep : Int) (p : Nat) (w : World), deep.toNat = d → I64 deep → p ≤ bs.length → Tr w A a cap bs p 0 → Env A w →
      Calls Tryz.prog 95 #[.pointer (some ⟨A, 0, none⟩), .int .i64 deep] w fun e w' => TdO A a cap bs p w (rdT d (bs.drop p)) e w')
    (deep : Int) (p : Nat) (w : World) (hd : deep.toNat = d + 1) (hI : I64 deep) (hpl : p ≤ bs.length) (hp : Tr w A a cap bs p 0) (henv : Env A w) :
    Calls Tryz.prog 95 #[.pointer (some ⟨A, 0, none⟩), .int .i64 deep] w fun e w' => TdO A a cap bs p w (rdT (d + 1) (bs.drop p)) e w' := by
  obtain ⟨hI0, hI1⟩ := hI
  have hlA := hp.lt
  have IH := Lib.hid ih; clear ih
  have hdz : ¬ deep < 1 := by omega
  have HD := Lib.hid (show (deep - 1).toNat = d from by omega)
  have hdw : IntKind.i64.wrap (deep - 1) = deep - 1 := by rw [Go.IntWalk.i64_left, Go.IntWalk.wrap64_in _ ⟨by omega, by omega⟩]
  have HP := Lib.hid (hp.below (below1 w (.cells zV 26)) hlA)
  have HI := Lib.hid (Is.new w zV 26)
  have HK := Lib.hid (Kp.alloc (w := w) (Nat.le_of_lt hlA) (.cells zV 26))
  have HE := Lib.hid (henv.step HK.out.1)
  have HU := Lib.hid (fun x (hx : x ∈ bs.drop p) => hp.2.u8 x (List.mem_of_mem_drop hx))
  obtain ⟨L, hL⟩ : ∃ L, rdT (d + 1) (bs.drop p) = L := ⟨_, rfl⟩
  rw [hL]
  have HL := Lib.hid hL
  clear hp henv hL hd
  go_enter Tryz.func95, Tryz.ntmps95
  go_upto_region 3 with (fail)
  have hs1 : (w.alloc (.cells zV 26)).heap.size = w.heap.size + 1 := by simp
  obtain ⟨R, hR⟩ : ∃ R, w.heap.size = R := ⟨_, rfl⟩
  rw [hR] at HI hs1
  try rw [hR]
  have hRA : A < R := by omega
  generalize w.alloc (.cells zV 26) = w1 at *
  go_wp2_with fail
  refine (impl_thead A a cap bs p w1 HP.out hpl hlen).mono ?_
  rintro e w2 (⟨mj, n, wd, u, hok, rfl, ht2, hk2⟩ | ⟨c, herr, rfl, ht2, hk2⟩)
  case inr =>
    have hc := rdH_err herr
    have HLE := Lib.hid (show L = .error c from by rw [← HL.out, rdT, herr])
    have hcb : (c != 0) = true := by simp; omega
    have HC := Lib.hid hc
    have hb3 := below1 w2 (.cells (cH 0 0 0) 56)
    have HR3 := Lib.hid ((hk2.is HI.out (by omega)).alloc (.cells (cH 0 0 0) 56))
    have HP3 := Lib.hid (ht2.below hb3 ht2.lt)
    have HK3 := Lib.hid ((HK.out.trans hk2).trans (Kp.alloc (Nat.le_of_lt ht2.lt) (.cells (cH 0 0 0) 56)))
    clear hk2 ht2 herr hc hb3 HP HI HK HE HL
    go_upto_region 4 with (fail)
    generalize w2.alloc (.cells (cH 0 0 0) 56) = w3 at *
    obtain ⟨z0, z1, z2⟩ := HP3.out.1.cells3
    have fr := fun i => HR3.out.frozen i
    have lR := HR3.out.lt; have lA := HP3.out.lt
    obtain ⟨o0, o1, o2, o3, o4⟩ := HR3.out.cells5
    go_wp2_with fail
    obtain ⟨e0, e1, e2, e3, e4, hbel, hold, hsz⟩ := out5 HR3.out.blk (.int .i64 0) (.int .i64 0) (.int .i64 0) (.string ⟨#[]⟩) (.slice none 0 0) R (Nat.le_refl _)
    refine bodyPost_ret (v := .agg zV) (by simp [results, Tryz.results95, go_sem, e0, e1, e2, e3, e4]) rfl (TdO.fail HLE.out HC.out (HP3.out.below hbel hRA) (Kp.grow HK3.out (hbel.mono (by omega)) (by omega)))
  obtain ⟨⟨hu1, hu2⟩, ⟨hm0, hm7⟩, hn, hw⟩ := rdH_in HU.out hok
  rw [List.length_drop] at hu2
  obtain ⟨q, hq⟩ : ∃ q, p + u = q := ⟨_, rfl⟩
  have hq1 : 0 < q := by omega
  have hq2 : q ≤ bs.length := by omega
  have HLL := Lib.hid (show L = (match rdBody (rdT d) mj n wd (bs.drop q) with | .error c => .error c | .ok (t, v) => .ok (t, u + v)) from by
    rw [← HL.out, rdT_step d hok, List.drop_drop, hq]
    cases rdBody (rdT d) mj n wd (bs.drop q) <;> rfl)
  rw [hq] at ht2
  have HQ := Lib.hid hq; have HN := Lib.hid hn
  have hI64 : I64 wd := ⟨by omega, by omega⟩
  have HWI := Lib.hid hI64
  have hb3 := below1 w2 (.cells (cH mj n wd) 56)
  have HR3 := Lib.hid ((hk2.is HI.out (by omega)).alloc (.cells (cH mj n wd) 56))
  have HP3 := Lib.hid (ht2.below hb3 ht2.lt)
  have HK3 := Lib.hid ((HK.out.trans hk2).trans (Kp.alloc (Nat.le_of_lt ht2.lt) (.cells (cH mj n wd) 56)))
  have HE3 := Lib.hid ((HE.out.step hk2.1).step (hb3.mono (Nat.le_of_lt ht2.lt)))
  have HH3 := Lib.hid (Is.new w2 (cH mj n wd) 56)
  have hs2 : R < w2.heap.size := (hk2.is HI.out (by omega)).lt
  clear hk2 ht2 hok hb3 HP HI HK HE HL hu1 hu2 hq hn hw hI64 HU
  go_upto_region 4 with (fail)
  obtain ⟨H, hH⟩ : ∃ H, w2.heap.size = H := ⟨_, rfl⟩
  rw [hH] at HH3 hs2
  try rw [hH]
  generalize w2.alloc (.cells (cH mj n wd) 56) = w3 at *
  clear hH
  obtain ⟨z0, z1, z2⟩ := HP3.out.1.cells3
  have fr := fun i => HR3.out.frozen i
  have lR := HR3.out.lt; have lA := HP3.out.lt; have lH := HH3.out.lt
  obtain ⟨o0, o1, o2, o3, o4⟩ := HR3.out.cells5
  obtain ⟨h0, h1, h2⟩ := HH3.out.cells3
  have hwR : w.heap.size ≤ R := by omega
  by_cases k0 : mj = 0
  · subst k0
    have HB := Lib.hid (show L = .ok (.mk 3 n 0 ⟨#[]⟩ [], u) from HLL.out)
    clear HLL
    go_wp2_with fail
    refine (impl_IntVal n _).mono ?_
    rintro e w4 ⟨rfl, hb4⟩
    have hi := HR3.out.below hb4 lR
    have hp := HP3.out.below hb4 lA
    have hkk := Kp.grow HK3.out (hb4.mono (Kp.size HK3.out)) (Nat.le_of_lt hlA)
    have f4 := fun i => hi.frozen i
    have l4 := hi.lt
    obtain ⟨r0, r1, r2, r3, r4⟩ := hi.cells5
    go_wp2_with fail
    obtain ⟨e0, e1, e2, e3, e4, hbel, hold, hsz⟩ := out5 hi.blk (.int .i64 3) (.int .i64 n) (.int .i64 0) (.string ⟨#[]⟩) (.slice none 0 0) R (Nat.le_refl _)
    refine bodyPost_ret (v := .agg #[.int .i64 3, .int .i64 n, .int .i64 0, .string ⟨#[]⟩, .slice none 0 0]) (by simp [results, Tryz.results95, go_sem, e0, e1, e2, e3, e4]) rfl
      ⟨_, none, 0, rfl, wfS (by decide) ⟨by have := HN.out; omega, by have := HN.out; omega⟩ ⟨by decide, by decide⟩ (by decide), App.nil _ _ _, Kp.grow hkk (hbel.mono (by omega)) (by omega), Or.inl ⟨u, HB.out, by have := HQ.out; omega, by rw [HQ.out]; exact hp.below hbel hRA⟩⟩
  have b0 : (mj == 0) = false := by simpa using k0
  by_cases k1 : mj = 1
  · subst k1
    by_cases hbig : 999999999999999 < n
    · have HB := Lib.hid (show L = .error 2 from by rw [HLL.out]; unfold rdBody; rw [if_neg (by decide), if_pos rfl, if_pos hbig])
      clear HLL
      go_wp2_with fail
      refine (impl_tfail A a cap bs (q : Int) 2 _ HP3.out).mono ?_
      rintro e w8 ⟨rfl, hp8, hk8⟩
      have p8 := hk8.is HR3.out (by omega)
      have f8 := fun i => p8.frozen i
      have l8 := p8.lt
      obtain ⟨o0, o1, o2, o3, o4⟩ := p8.cells5
      go_wp2_with fail
      obtain ⟨e0, e1, e2, e3, e4, hbel, hold, hsz⟩ := out5 p8.blk (.int .i64 0) (.int .i64 0) (.int .i64 0) (.string ⟨#[]⟩) (.slice none 0 0) R (Nat.le_refl _)
      refine bodyPost_ret (v := .agg zV) (by simp [results, Tryz.results95, go_sem, e0, e1, e2, e3, e4]) rfl (TdO.fail HB.out (Or.inr rfl) (hp8.below hbel hRA) (Kp.grow (HK3.out.trans hk8) (hbel.mono (by omega)) (by omega)))
    · have HB := Lib.hid (show L = .ok (.mk 3 (-1 - n) 0 ⟨#[]⟩ [], u) from by rw [HLL.out]; unfold rdBody; rw [if_neg (by decide), if_pos rfl, if_neg hbig]; rfl)
      have hn0 := HN.out
      have hnw : IntKind.i64.wrap (-1 - n) = -1 - n := by rw [Go.IntWalk.i64_left, Go.IntWalk.wrap64_in _ ⟨by omega, by omega⟩]
      clear HLL
      go_wp2_with fail
      refine (impl_IntVal (-1 - n) _).mono ?_
      rintro e w4 ⟨rfl, hb4⟩
      have hi := HR3.out.below hb4 lR
      have hp := HP3.out.below hb4 lA
      have hkk := Kp.grow HK3.out (hb4.mono (Kp.size HK3.out)) (Nat.le_of_lt hlA)
      have f4 := fun i => hi.frozen i
      have l4 := hi.lt
      obtain ⟨r0, r1, r2, r3, r4⟩ := hi.cells5
      go_wp2_with fail
      obtain ⟨e0, e1, e2, e3, e4, hbel, hold, hsz⟩ := out5 hi.blk (.int .i64 3) (.int .i64 (-1 - n)) (.int .i64 0) (.string ⟨#[]⟩) (.slice none 0 0) R (Nat.le_refl _)
      refine bodyPost_ret (v := .agg #[.int .i64 3, .int .i64 (-1 - n), .int .i64 0, .string ⟨#[]⟩, .slice none 0 0]) (by simp [results, Tryz.results95, go_sem, e0, e1, e2, e3, e4]) rfl
        ⟨_, none, 0, rfl, wfS (by decide) ⟨by omega, by omega⟩ ⟨by decide, by decide⟩ (by decide), App.nil _ _ _, Kp.grow hkk (hbel.mono (by omega)) (by omega), Or.inl ⟨u, HB.out, by have := HQ.out; omega, by rw [HQ.out]; exact hp.below hbel hRA⟩⟩
  have b1 : (mj == 1) = false := by simpa using k1
  by_cases k23 : mj = 2 ∨ mj = 3
  · have HB := Lib.hid (show L = (match (match (if wd = -1 then rdParts mj ((bs.drop q).length + 1) (bs.drop q) else rdStr mj n (bs.drop q)) with | .error c => (.error c : Except Int (T × Nat)) | .ok (s, v) => .ok (.mk (if mj = 3 then 7 else 8) 0 0 (strOfNums s) [], v)) with | .error c => .error c | .ok (t, v) => .ok (t, u + v)) from by
      rw [HLL.out]; unfold rdBody; rw [if_neg k0, if_neg k1, if_pos k23]; cases (if wd = -1 then rdParts mj ((bs.drop q).length + 1) (bs.drop q) else rdStr mj n (bs.drop q)) <;> rfl)
    clear HLL
    have HTX := Lib.hid (impl_ttext A a cap bs q mj n wd w3 HP3.out hq1 hq2 hlen k23 HN.out HWI.out HE3.out)
    rcases (show (mj == 2) = true ∨ ((mj == 2) = false ∧ (mj == 3) = true) from by
      rcases k23 with h | h
      · exact Or.inl (by simpa using h)
      · exact Or.inr ⟨by simp; omega, by simpa using h⟩) with b2 | ⟨b2, b3⟩
    all_goals
      clear k23 k0 k1
      go_wp2_with (go_at_call 155; refine HTX.out.mono ?_; rintro e w4 ⟨t4, a4, c4, rfl, hwf4, happ4, hk4, hres⟩; have p8 := hk4.is HR3.out (by omega); have f8 := (fun i => p8.frozen i); have l8 := p8.lt; obtain ⟨o0, o1, o2, o3, o4⟩ := p8.cells5)
      obtain ⟨e0, e1, e2, e3, e4, hbel, hold, hsz⟩ := out5 p8.blk (.int .i64 t4.k) (.int .i64 t4.n) (.int .i64 t4.x) (.string t4.s) (.slice a4 t4.l.length c4) R (Nat.le_refl _)
      refine bodyPost_ret (v := .agg (cV t4 a4 c4)) (by simp [results, Tryz.results95, go_sem, e0, e1, e2, e3, e4]) rfl
        ⟨t4, a4, c4, rfl, hwf4, ?_, Kp.grow (HK3.out.trans hk4) (hbel.mono (by omega)) (by omega), TdO.up HQ.out HB.out hres hbel hRA⟩
      rw [hsz]; exact (happ4.agree TV.elem (fun f h1 h2 => hold f (by omega))).more (by omega) (Nat.le_refl _)
  by_cases k45 : mj = 4 ∨ mj = 5
  · have HB := Lib.hid (show L = (match (match (if wd = -1 then rdOpen (rdT d) (decide (mj = 5)) false ((bs.drop q).length + 1) (bs.drop q) else rdMany (rdT d) (if mj = 5 then 2 * n.toNat else n.toNat) (bs.drop q)) with | .error c => (.error c : Except Int (T × Nat)) | .ok (ts, v) => .ok (.mk (if mj = 5 then 10 else 9) 0 0 ⟨#[]⟩ ts, v)) with | .error c => .error c | .ok (t, v) => .ok (t, u + v)) from by
      rw [HLL.out]; unfold rdBody; rw [if_neg k0, if_neg k1, if_neg k23, if_pos k45]; cases (if wd = -1 then rdOpen (rdT d) (decide (mj = 5)) false ((bs.drop q).length + 1) (bs.drop q) else rdMany (rdT d) (if mj = 5 then 2 * n.toNat else n.toNat) (bs.drop q)) <;> rfl)
    clear HLL
    have HTX := Lib.hid (impl_telements A a cap bs hlen d IH.out deep HD.out (by omega) hI1 q mj n wd w3 HP3.out hq2 k45 HN.out HE3.out)
    have b2 : (mj == 2) = false := by simp; omega
    have b3 : (mj == 3) = false := by simp; omega
    rcases (show (mj == 4) = true ∨ ((mj == 4) = false ∧ (mj == 5) = true) from by
      rcases k45 with h | h
      · exact Or.inl (by simpa using h)
      · exact Or.inr ⟨by simp; omega, by simpa using h⟩) with b4 | ⟨b4, b5⟩
    all_goals
      clear k45 k23 k0 k1
      go_wp2_with (go_at_call 156; refine HTX.out.mono ?_; rintro e w4 ⟨t4, a4, c4, rfl, hwf4, happ4, hk4, hres⟩; have p8 := hk4.is HR3.out (by omega); have f8 := (fun i => p8.frozen i); have l8 := p8.lt; obtain ⟨o0, o1, o2, o3, o4⟩ := p8.cells5)
      obtain ⟨e0, e1, e2, e3, e4, hbel, hold, hsz⟩ := out5 p8.blk (.int .i64 t4.k) (.int .i64 t4.n) (.int .i64 t4.x) (.string t4.s) (.slice a4 t4.l.length c4) R (Nat.le_refl _)
      refine bodyPost_ret (v := .agg (cV t4 a4 c4)) (by simp [results, Tryz.results95, go_sem, e0, e1, e2, e3, e4]) rfl
        ⟨t4, a4, c4, rfl, hwf4, ?_, Kp.grow (HK3.out.trans hk4) (hbel.mono (by omega)) (by omega), TdO.up HQ.out HB.out hres hbel hRA⟩
      rw [hsz]; exact (happ4.agree TV.elem (fun f h1 h2 => hold f (by omega))).more (by omega) (Nat.le_refl _)
  have b2 : (mj == 2) = false := by simp; omega
  have b3 : (mj == 3) = false := by simp; omega
  have b4 : (mj == 4) = false := by simp; omega
  have b5 : (mj == 5) = false := by simp; omega
  by_cases k6 : mj = 6
  · subst k6
    have HB := Lib.hid (show L = (match (match rdT d (bs.drop q) with | .error c => (.error c : Except Int (T × Nat)) | .ok (t, v) => .ok (.mk 11 n 0 ⟨#[]⟩ [t], v)) with | .error c => .error c | .ok (t, v) => .ok (t, u + v)) from by
      rw [HLL.out]; unfold rdBody; rw [if_neg k0, if_neg k1, if_neg k23, if_neg k45, if_pos rfl]; cases rdT d (bs.drop q) <;> rfl)
    have HTX := Lib.hid (IH.out (deep - 1) q w3 HD.out ⟨by omega, by omega⟩ hq2 HP3.out HE3.out)
    clear HLL k0 k1 k23 k45
    go_wp2_with fail
    refine HTX.out.mono ?_
    rintro e w4 ⟨t4, a4, c4, rfl, hwf4, happ4, hk4, hres⟩
    have hs4 := hk4.size
    have HRX := Lib.hid hres
    have HWF4 := Lib.hid hwf4
    obtain ⟨G, g1, g2, g3⟩ := Own.ow.2 happ4.own
    have HR5 := Lib.hid ((hk4.is HR3.out (by omega)).alloc (.cells (cV t4 a4 c4) 26))
    have HH5 := Lib.hid ((hk4.is HH3.out (by omega)).alloc (.cells (cV t4 a4 c4) 26))
    have HX5 := Lib.hid (Is.new w4 (cV t4 a4 c4) 26)
    have hA4 : A < w4.heap.size := by omega
    have HK5 := Lib.hid ((HK3.out.trans hk4).trans (Kp.alloc (Nat.le_of_lt hA4) (.cells (cV t4 a4 c4) 26)))
    have hb5 := below1 w4 (.cells (cV t4 a4 c4) 26)
    have HTL := Lib.hid (show TL (w4.alloc (.cells (cV t4 a4 c4) 26)) a4 c4 t4.l G from g1.agree (fun f hf => hb5.block f (g3 f hf).2.2.lt))
    have HG5 := Lib.hid (show ∀ f ∈ G, w3.heap.size ≤ f ∧ f < w4.heap.size ∧ Unf (w4.alloc (.cells (cV t4 a4 c4) 26)) f from fun f hf => ⟨(g3 f hf).1, (g3 f hf).2.1, (g3 f hf).2.2.alloc _⟩)
    have HND := Lib.hid g2
    have HB5 := Lib.hid hb5
    clear hres hwf4 happ4 hk4 g1 g2 g3 hb5 h0 h1 h2 z0 z1 z2 o0 o1 o2 o3 o4 fr
    go_upto_region 21 with (fail)
    obtain ⟨X, hX⟩ : ∃ X, w4.heap.size = X := ⟨_, rfl⟩
    rw [hX] at HX5 HG5 hs4 hA4 HB5
    try rw [hX]
    generalize w4.alloc (.cells (cV t4 a4 c4) 26) = w5 at *
    obtain ⟨h0, h1, h2⟩ := HH5.out.cells3
    obtain ⟨x0, x1, x2, x3, x4⟩ := HX5.out.cells5
    obtain ⟨o0, o1, o2, o3, o4⟩ := HR5.out.cells5
    have fr := fun i => HR5.out.frozen i
    have lR5 := HR5.out.lt; have lH5 := HH5.out.lt; have lX5 := HX5.out.lt
    clear hX
    go_wp2_with fail
    obtain ⟨_, _, _, _, _, hbel, hold, hsz⟩ := out5 HR5.out.blk (.int .i64 11) (.int .i64 n) (.int .i64 0) (.string ⟨#[]⟩) (.slice (some ⟨w5.heap.size, 0, none⟩) 1 1) R (Nat.le_refl _)
    have hI := (((((HR5.out.set 0 (.int .i64 11)).set 1 (.int .i64 n)).set 2 (.int .i64 0)).set 3 (.string ⟨#[]⟩)).set 4 (.slice (some ⟨w5.heap.size, 0, none⟩) 1 1)).alloc (.cells (cV t4 a4 c4) 26)
    obtain ⟨e0, e1, e2, e3, e4⟩ := hI.cells5
    refine bodyPost_ret (v := .agg #[.int .i64 11, .int .i64 n, .int .i64 0, .string ⟨#[]⟩, .slice (some ⟨w5.heap.size, 0, none⟩) 1 1]) (by simp [results, Tryz.results95, go_sem, e0, e1, e2, e3, e4]) rfl
      ⟨.mk 11 n 0 ⟨#[]⟩ [t4], some ⟨w5.heap.size, 0, none⟩, 1, rfl, wfT HN.out, ?_, ?_, ?_⟩
    · have hG := HG5.out
      have hTV := TV.box 26 (HTL.out.agree (fun f hf => hold f (by have := (hG f hf).1; omega))) HWF4.out (fun f hf => by rw [hsz]; have := (hG f hf).2.1; omega)
      rw [hsz] at hTV
      exact App.cell hsz hTV HND.out (fun f hf => ⟨by have := (hG f hf).1; omega, by have := (hG f hf).2.1; omega, (hG f hf).2.2.agree (hold f (by have := (hG f hf).1; omega))⟩) rfl (by omega)
    · exact Kp.grow (Kp.grow HK5.out (hbel.mono (by omega)) (by omega)) ((below1 _ _).mono (by rw [hsz]; omega)) (by omega)
    · refine TdO.up (w3 := w4) HQ.out HB.out ?_ ((HB5.out.mono (by omega)).trans (hbel.trans ((below1 _ _).mono (by rw [hsz]; omega)))) hRA
      rcases HRX.out with ⟨v, h1, h2, h3⟩ | ⟨c, q', h1, h2, h3⟩
      · exact Or.inl ⟨v, by rw [h1], h2, h3⟩
      · exact Or.inr ⟨c, q', by rw [h1], h2, h3⟩
  · have HB := Lib.hid (show L = (match (match rdSimple n wd with | .error c => (.error c : Except Int (T × Nat)) | .ok t => .ok (t, 0)) with | .error c => .error c | .ok (t, v) => .ok (t, u + v)) from by
      rw [HLL.out]; unfold rdBody; rw [if_neg k0, if_neg k1, if_neg k23, if_neg k45, if_neg k6]; cases rdSimple n wd <;> rfl)
    have HTX := Lib.hid (impl_tsimple A a cap bs q mj n wd w3 HP3.out hq2 HN.out)
    have b6 : (mj == 6) = false := by simpa using k6
    clear HLL k0 k1 k23 k45 k6
    go_wp2_with (go_at_call 157; refine HTX.out.mono ?_; rintro e w4 ⟨t4, a4, c4, rfl, hwf4, happ4, hk4, hres⟩; have p8 := hk4.is HR3.out (by omega); have f8 := (fun i => p8.frozen i); have l8 := p8.lt; obtain ⟨o0, o1, o2, o3, o4⟩ := p8.cells5)
    obtain ⟨e0, e1, e2, e3, e4, hbel, hold, hsz⟩ := out5 p8.blk (.int .i64 t4.k) (.int .i64 t4.n) (.int .i64 t4.x) (.string t4.s) (.slice a4 t4.l.length c4) R (Nat.le_refl _)
    refine bodyPost_ret (v := .agg (cV t4 a4 c4)) (by simp [results, Tryz.results95, go_sem, e0, e1, e2, e3, e4]) rfl
      ⟨t4, a4, c4, rfl, hwf4, ?_, Kp.grow (HK3.out.trans hk4) (hbel.mono (by omega)) (by omega), TdO.up HQ.out HB.out hres hbel hRA⟩
    rw [hsz]; exact (happ4.agree TV.elem (fun f h1 h2 => hold f (by omega))).more (by omega) (Nat.le_refl _)
set_option maxHeartbeats 16000000 in
theorem impl_tvalue (A : Nat) (a : Option Addr) (cap : Nat) (bs : List Int) (hlen : bs.length ≤ 1073741824) : ∀ d : Nat, ∀ (deep : Int) (p : Nat) (w : World), deep.toNat = d → I64 deep → p ≤ bs.length → Tr w A a cap bs p 0 → Env A w →
  Calls Tryz.prog 95 #[.pointer (some ⟨A, 0, none⟩), .int .i64 deep] w fun e w' => TdO A a cap bs p w (rdT d (bs.drop p)) e w' := by
 intro d
 induction d with
 | zero =>
  intro deep p w hd hI hpl hp _
  obtain ⟨hI0, hI1⟩ := hI
  have hlA := hp.lt
  have HP := Lib.hid (hp.below (below1 w (.cells zV 26)) hlA)
  have HI := Lib.hid (Is.new w zV 26)
  have HK := Lib.hid (Kp.alloc (w := w) (Nat.le_of_lt hlA) (.cells zV 26))
  have hdz : deep < 1 := by omega
  have HR := Lib.hid (show rdT 0 (bs.drop p) = .error 2 from rfl)
  rw [HR.out]
  clear hp hd
  go_enter Tryz.func95, Tryz.ntmps95
  go_wp2_with fail
  refine (impl_tfail A a cap bs p 2 _ HP.out).mono ?_
  rintro e w2 ⟨rfl, hp2, hk2⟩
  have p2 := hk2.is HI.out (by omega)
  have f2 := fun i => p2.frozen i
  have l2 := p2.lt
  obtain ⟨o0, o1, o2, o3, o4⟩ := p2.cells5
  go_wp2_with fail
  obtain ⟨e0, e1, e2, e3, e4, hbel, hold, hsz⟩ := out5 p2.blk (.int .i64 0) (.int .i64 0) (.int .i64 0) (.string ⟨#[]⟩) (.slice none 0 0) w.heap.size (Nat.le_refl _)
  refine bodyPost_ret (v := .agg zV) (by simp [results, Tryz.results95, go_sem, e0, e1, e2, e3, e4]) rfl (TdO.fail rfl (Or.inr rfl) (hp2.below hbel hlA) (Kp.grow (HK.out.trans hk2) hbel (Nat.le_of_lt hlA)))
 | succ d ih =>
  intro deep p w hd hI hpl hp henv
  exact tvalue_step A a cap bs hlen d ih deep p w hd hI hpl hp henv
set_option maxHeartbeats 8000000 in
theorem impl_GetTight0 (bs : List Int) (a : Option Addr) (cap B : Nat) (deep : Int) (w : World) (hr : Rd EByte 1 w B a cap bs) (hB : B ≤ w.heap.size) (hl : bs.length ≤ 1073741824) (hd0 : 0 ≤ deep) (hd1 : deep ≤ 10000) (he : Env B w) :
  Calls Tryz.prog 44 #[.slice a bs.length cap, .int .i64 0, .int .i64 deep] w fun e w' => GetO bs.length w (rdT deep.toNat bs) e w' := by
 obtain ⟨hlc, hcap⟩ := hr.len
 have hb1 := below1 w (.cells zV 26)
 have HQ0 := Is.new w zV 26
 obtain ⟨w1, hw1⟩ : ∃ w1, w.alloc (.cells zV 26) = w1 := ⟨_, rfl⟩
 have hs1 : w1.heap.size = w.heap.size + 1 := by rw [← hw1]; simp
 rw [hw1] at hb1 HQ0
 obtain ⟨w2, hw2⟩ : ∃ w2, w1.alloc (.cells #[.slice a bs.length cap, .int .i64 0, .int .i64 0] 74) = w2 := ⟨_, rfl⟩
 have hb2 : Below w1.heap.size w1 w2 := hw2 ▸ below1 w1 _
 have HA := Lib.hid (show Is w2 w1.heap.size 74 #[.slice a bs.length cap, .int .i64 0, .int .i64 0] from hw2 ▸ Is.new w1 _ _)
 have HQ := Lib.hid (HQ0.below hb2 (by omega))
 have HB2 := Lib.hid (show Below w.heap.size w w2 from hb1.trans (hb2.mono (by omega)))
 have HP := Lib.hid (show Tr w2 w1.heap.size a cap bs ((0 : Nat) : Int) 0 from ⟨HA.out, (hr.below EByte.loc HB2.out hB).more (by omega)⟩)
 have HE := Lib.hid ((he.step (HB2.out.mono hB)).more (show B ≤ w1.heap.size from by omega))
 have hlt2 : w1.heap.size < w2.heap.size := HA.out.lt
 clear hr hb1 HQ0 hb2 he
 have HVAL := Lib.hid (impl_tvalue w1.heap.size a cap bs hl deep.toNat deep 0 w2 rfl ⟨by omega, by omega⟩ (Nat.zero_le _) HP.out HE.out)
 rw [List.drop_zero] at HVAL
 obtain ⟨r, hrr⟩ : ∃ r, rdT deep.toNat bs = r := ⟨_, rfl⟩
 rw [hrr] at HVAL ⊢
 clear hrr
 go_enter Tryz.func44, Tryz.ntmps44
 obtain ⟨A, hA⟩ : ∃ A, w.heap.size + 1 = A := ⟨_, rfl⟩
 rw [hs1, hA] at HVAL HP HE hlt2
 rw [hA] at hs1
 have hwA : w.heap.size < A := by omega
 have hmin : min deep 10000 = deep := by omega
 go_wp2_with fail
 try rw [hA]
 refine HVAL.out.mono ?_
 clear hw1 hw2 HVAL HA hs1
 rintro e w3 ⟨t, a', c', rfl, hwf, happ, hk, ⟨u, rfl, hul, hpr⟩ | ⟨c, q, rfl, hc, hpr⟩⟩
 ·have HQ3 := Lib.hid (hk.is HQ.out (by omega))
  have HP3 := Lib.hid hpr
  have HR3 := Lib.hid (happ.rn (Nat.le_refl _))
  have HB3 := Lib.hid (HB2.out.trans (hk.1.mono (by omega)))
  have hs3 := hk.size
  clear hpr happ hk
  obtain ⟨z0, z1, z2⟩ := HP3.out.1.cells3
  have lA := HP3.out.lt
  obtain ⟨r0, r1, r2, r3, r4⟩ := HQ3.out.cells5
  have fr := fun i => HQ3.out.frozen i
  have lR := HQ3.out.lt
  go_upto_region 5 with (fail)
  go_region
  obtain ⟨_, _, _, _, _, hbel, hold, hsz⟩ := out5 HQ3.out.blk (.int .i64 t.k) (.int .i64 t.n) (.int .i64 t.x) (.string t.s) (.slice a' t.l.length c') w.heap.size (Nat.le_refl _)
  have hI := (((((((HQ3.out.set 0 (.int .i64 t.k)).set 1 (.int .i64 t.n)).set 2 (.int .i64 t.x)).set 3 (.string t.s)).set 4 (.slice a' t.l.length c')).alloc (.cells (cV t a' c') 26)).dr)
  obtain ⟨e0, e1, e2, e3, e4⟩ := hI.cells5
  go_wp2_with fail
  refine bodyPost_ret (v := .tuple #[.agg (cV t a' c'), .int .i64 (u : Nat), .int .i64 0]) (by simp [results, Tryz.results44, go_sem, e0, e1, e2, e3, e4]) rfl ?_
  refine Or.inl ⟨t, u, a', c', rfl, rfl, hwf, by omega, ?_, ((HB3.out.trans hbel).trans ((below1 _ _).mono (by rw [hsz]; omega))).drew⟩
  have R1 := HR3.out.agree (w' := _) TV.elem.loc (fun f h1 _ => hold f (by omega)) (by rw [hsz]; exact Nat.le_refl _)
  exact ((R1.below TV.elem.loc (below1 _ _) (Nat.le_refl _)).below TV.elem.loc ((Below.refl _ _).drew) (Nat.le_refl _)).less (by omega)
 ·have HQ3 := Lib.hid (hk.is HQ.out (by omega))
  have HP3 := Lib.hid hpr
  have HB3 := Lib.hid (HB2.out.trans (hk.1.mono (by omega)))
  have hs3 := hk.size
  clear hpr hk happ hwf
  have hcb : (c != 0) = true := by simp; omega
  obtain ⟨z0, z1, z2⟩ := HP3.out.1.cells3
  have lA := HP3.out.lt
  obtain ⟨r0, r1, r2, r3, r4⟩ := HQ3.out.cells5
  have fr := fun i => HQ3.out.frozen i
  have lR := HQ3.out.lt
  go_upto_region 4 with (fail)
  go_region
  obtain ⟨_, _, _, _, _, hbel, hold, hsz⟩ := out5 HQ3.out.blk (.int .i64 0) (.int .i64 0) (.int .i64 0) (.string ⟨#[]⟩) (.slice none 0 0) w.heap.size (Nat.le_refl _)
  have hI := (((((((HQ3.out.set 0 (.int .i64 0)).set 1 (.int .i64 0)).set 2 (.int .i64 0)).set 3 (.string ⟨#[]⟩)).set 4 (.slice none 0 0)).alloc (.cells (cV t a' c') 26)).dr)
  obtain ⟨e0, e1, e2, e3, e4⟩ := hI.cells5
  go_wp2_with fail
  refine bodyPost_ret (v := .tuple #[.agg zV, .int .i64 0, .int .i64 c]) (by simp [results, Tryz.results44, go_sem, e0, e1, e2, e3, e4]) rfl ?_
  exact Or.inr ⟨c, rfl, hc, rfl, ((HB3.out.trans hbel).trans ((below1 _ _).mono (by rw [hsz]; omega))).drew⟩
set_option maxHeartbeats 8000000 in
theorem impl_ReadTight_ok (bs : List Int) (t : T) (a : Option Addr) (cap B : Nat) (deep : Int) (w : World) (hr : Rd EByte 1 w B a cap bs) (hB : B ≤ w.heap.size) (hl : bs.length ≤ 1073741824) (hI0 : 0 ≤ deep) (hI1 : deep ≤ 10000) (he : Env B w) (hok : rdT deep.toNat bs = .ok (t, bs.length)) :
  Calls Tryz.prog 15 #[.slice a bs.length cap, .int .i64 deep] w fun e w' => ∃ a' cap', e = .returned (.tuple #[.agg (cV t a' cap'), .int .i64 0]) ∧ Rn TV 5 w' w.heap.size a' cap' t.l ∧ Wf t ∧ Below w.heap.size w w' := by
 have HQ := Lib.hid (Is.new w zV 26)
 have HB1 := Lib.hid (below1 w (.cells zV 26))
 have HGP := Lib.hid (impl_GetTight0 bs a cap B deep (w.alloc (.cells zV 26)) (hr.below EByte.loc HB1.out hB) (by simp; omega) hl hI0 hI1 (he.step (HB1.out.mono hB)))
 clear hr he
 go_enter Tryz.func15, Tryz.ntmps15
 go_wp2_with fail
 refine HGP.out.mono ?_
 rintro e w2 (⟨t', u, a', c', hr2, rfl, hwf, hul, hrn, hb⟩ | ⟨c, hr2, _⟩)
 ·rw [hok] at hr2
  cases hr2
  have hs2 := hb.size
  rw [size_alloc] at hs2
  have HQ2 := Lib.hid (HQ.out.below hb (by simp))
  have HR2 := Lib.hid hrn
  have HB2 := Lib.hid (HB1.out.trans (hb.mono (by simp)))
  clear hb hrn hok
  have hll : ¬ (bs.length : Int) < (bs.length : Int) := by omega
  obtain ⟨r0, r1, r2, r3, r4⟩ := HQ2.out.cells5
  have fr := fun i => HQ2.out.frozen i
  have lR := HQ2.out.lt
  go_wp2_with fail
  obtain ⟨_, _, _, _, _, hbel, hold, hsz⟩ := out5 HQ2.out.blk (.int .i64 t.k) (.int .i64 t.n) (.int .i64 t.x) (.string t.s) (.slice a' t.l.length c') w.heap.size (Nat.le_refl _)
  have hI := ((((((HQ2.out.set 0 (.int .i64 t.k)).set 1 (.int .i64 t.n)).set 2 (.int .i64 t.x)).set 3 (.string t.s)).set 4 (.slice a' t.l.length c')).alloc (.cells (cV t a' c') 26))
  obtain ⟨e0, e1, e2, e3, e4⟩ := hI.cells5
  refine bodyPost_ret (v := .tuple #[.agg (cV t a' c'), .int .i64 0]) (by simp [results, Tryz.results15, go_sem, e0, e1, e2, e3, e4]) rfl ⟨a', c', rfl, ?_, hwf, (HB2.out.trans hbel).trans ((below1 _ _).mono (by rw [hsz]; omega))⟩
  have R1 := HR2.out.agree (w' := _) TV.elem.loc (fun f h1 _ => hold f (by simp at h1; omega)) (by rw [hsz]; exact Nat.le_refl _)
  exact (R1.below TV.elem.loc (below1 _ _) (Nat.le_refl _)).less (by simp)
 ·rw [hok] at hr2; cases hr2
theorem tq_facts {t : T} (h : AllT tqQ t) : allB ownB t = true ∧ allB tightU t = true ∧ writeTL t = packT t := by
 have h1 := AllT.allB (p := ownB) (fun t h => decide_eq_true h.1) t h
 have h2 := AllT.allB (p := tightU) (fun t h => h.2.2.2.2) t h
 exact ⟨h1, h2, by unfold writeTL; rw [h1, h2]; rfl⟩
def nuG (o : Bool) (m n : Int) : List Int := if o = true then hdL m n else headL m n 8
theorem nuG_len (o : Bool) (m n : Int) : (nuG o m n).length ≤ 9 := by unfold nuG; split; exact hdL_len _ _; exact headL_len _ _ _
theorem nuG_u8 (o : Bool) (m n : Int) : ∀ x ∈ nuG o m n, U8 x := by unfold nuG; split; exact hdL_u8 _ _; exact headL_u8 _ _ _
def txG (o : Bool) (m : Int) (s : ByteArray) : List Int := if o = true then headL m 0 (-1) ++ ((if s.size = 0 then [] else hdL m s.size ++ byteL s) ++ [255]) else headL m s.size 8 ++ byteL s
theorem txG_len (o : Bool) (m : Int) (s : ByteArray) : (txG o m s).length ≤ 19 + s.size := by
 unfold txG
 have h1 := headL_len m 0 (-1); have h2 := hdL_len m s.size; have h3 := headL_len m s.size 8; have h4 := byteL_len s
 split
 ·split
  ·simp only [List.length_append, List.length_cons, List.length_nil]; omega
  ·simp only [List.length_append, List.length_cons, List.length_nil]; omega
 ·rw [List.length_append]; omega
theorem u8_255 : ∀ x ∈ [(255 : Int)], U8 x := by intro x hx; obtain rfl := List.mem_singleton.1 hx; exact ⟨by decide, by decide⟩
theorem u8_app {a b : List Int} (ha : ∀ x ∈ a, U8 x) (hb : ∀ x ∈ b, U8 x) : ∀ x ∈ a ++ b, U8 x := fun x hx => (List.mem_append.1 hx).elim (ha x) (hb x)
theorem txG_u8 (o : Bool) (m : Int) (s : ByteArray) : ∀ x ∈ txG o m s, U8 x := by
 unfold txG
 split
 ·refine u8_app (headL_u8 _ _ _) (u8_app ?_ u8_255)
  split
  ·intro x hx; cases hx
  ·exact u8_app (hdL_u8 _ _) (byteL_u8 _)
 ·exact u8_app (headL_u8 _ _ _) (byteL_u8 _)
def elG (o : Bool) (m n : Int) (bs : List Int) : List Int := if o = true then headL m 0 (-1) ++ (bs ++ [255]) else headL m n 8 ++ bs
theorem elG_len (o : Bool) (m n : Int) (bs : List Int) : (elG o m n bs).length ≤ 10 + bs.length := by
 unfold elG
 have h1 := headL_len m 0 (-1); have h3 := headL_len m n 8
 split
 ·simp only [List.length_append, List.length_cons, List.length_nil]; omega
 ·rw [List.length_append]; omega
theorem elG_u8 (o : Bool) (m n : Int) {bs : List Int} (h : ∀ x ∈ bs, U8 x) : ∀ x ∈ elG o m n bs, U8 x := by
 unfold elG
 split
 ·exact u8_app (headL_u8 _ _ _) (u8_app h u8_255)
 ·exact u8_app (headL_u8 _ _ _) h
mutual
def packG (o : Bool) : T → List Int
 | .mk k n x s l =>
  if k = 1 then headL 7 22 0 else if k = 2 then headL 7 (if n = 1 then 21 else 20) 0
  else if k = 3 then (if -1000000000000000 ≤ n ∧ n ≤ 1000000000000000 then (if n < 0 then nuG o 1 (-1 - n) else nuG o 0 n) else [])
  else if k = 4 then headL 7 (fltBitsD n x) 4
  else if k = 5 then (if 0 ≤ n ∧ n ≤ 2 then headL 7 (32 + n) 1 else [])
  else if k = 7 then txG o 3 s
  else if k = 8 then txG o 2 s
  else if k = 9 then elG o 4 l.length (packGs o l)
  else if k = 10 then elG o 5 ((l.length / 2 : Nat) : Int) (packGs o l)
  else if k = 11 then (if 0 ≤ n ∧ n ≤ 1000000000000000 then nuG o 6 n ++ packGs o l else [])
  else []
def packGs (o : Bool) : List T → List Int
 | [] => []
 | t :: r => packG o t ++ packGs o r
end
theorem packGs_append (o : Bool) (a b : List T) : packGs o (a ++ b) = packGs o a ++ packGs o b := by
 induction a with
 | nil => simp [packGs]
 | cons t r ih => rw [List.cons_append, packGs, packGs, ih, List.append_assoc]
theorem packGs_succ (o : Bool) (l : List T) (j : Nat) (h : j < l.length) : packGs o (l.take (j + 1)) = packGs o (l.take j) ++ packG o l[j] := by
 rw [take_snoc l j h, packGs_append]; simp [packGs]
theorem packG_u8 (o : Bool) : ∀ t : T, ∀ x ∈ packG o t, U8 x := by
 apply T.ind
 intro k n x s l ih
 have hl : ∀ r : List T, (∀ t ∈ r, t ∈ l) → ∀ y ∈ packGs o r, U8 y := by
  intro r
  induction r with
  | nil => intro _ y hy; rw [packGs] at hy; cases hy
  | cons t r ihr =>
   intro hm y hy
   rw [packGs] at hy
   rcases List.mem_append.1 hy with hy | hy
   ·exact ih t (hm t (List.mem_cons_self ..)) y hy
   ·exact ihr (fun u hu => hm u (List.mem_cons_of_mem _ hu)) y hy
 have hl2 := hl l (fun _ h => h)
 rw [packG]
 repeat' split
 all_goals first
  | exact headL_u8 _ _ _
  | exact nuG_u8 _ _ _
  | exact txG_u8 _ _ _
  | exact elG_u8 _ _ _ hl2
  | exact u8_app (nuG_u8 _ _ _) hl2
  | (intro y hy; cases hy)
theorem packGs_u8 (o : Bool) (l : List T) : ∀ x ∈ packGs o l, U8 x := by
 induction l with
 | nil => intro x hx; rw [packGs] at hx; cases hx
 | cons t r ih => rw [packGs]; exact u8_app (packG_u8 o t) ih
theorem packG_len (o : Bool) : ∀ t : T, (packG o t).length ≤ 19 + 20 * T.sz t := by
 apply T.ind
 intro k n x s l ih
 have hl : ∀ r : List T, (∀ t ∈ r, t ∈ l) → (packGs o r).length ≤ 20 * T.szL r := by
  intro r
  induction r with
  | nil => intro _; simp [packGs]
  | cons t r ihr =>
   intro hm
   have h1 := ih t (hm t (List.mem_cons_self ..))
   have h2 := ihr (fun u hu => hm u (List.mem_cons_of_mem _ hu))
   rw [packGs, List.length_append]; simp only [T.szL]; omega
 have hl2 := hl l (fun _ h => h)
 rw [packG]
 simp only [T.sz]
 repeat' split
 all_goals first
  | (have := headL_len 7 22 0; omega)
  | (have := headL_len 7 21 0; omega)
  | (have := headL_len 7 20 0; omega)
  | (have := headL_len 7 (fltBitsD n x) 4; omega)
  | (have := headL_len 7 (32 + n) 1; omega)
  | (have := nuG_len o 1 (-1 - n); omega)
  | (have := nuG_len o 0 n; omega)
  | (have := txG_len o 3 s; omega)
  | (have := txG_len o 2 s; omega)
  | (have := elG_len o 4 l.length (packGs o l); omega)
  | (have := elG_len o 5 ((l.length / 2 : Nat) : Int) (packGs o l); omega)
  | (rw [List.length_append]; have := nuG_len o 6 n; omega)
  | simp
theorem packGs_len (o : Bool) (l : List T) : (packGs o l).length ≤ 20 * T.szL l := by
 induction l with
 | nil => simp [packGs]
 | cons t r ih => rw [packGs, List.length_append]; simp only [T.szL]; have := packG_len o t; omega
end Go.Proofs.YtggdenkmohnijaaGreatDoor
