/- Texts of this proof, merged: Once4. No condition beyond what each theorem states. -/
import Derived.Test.YtggdenkmohnijaaGreatDoorZN31
set_option linter.unusedSimpArgs false
set_option linter.unnecessarySimpa false
namespace Go.Proofs.YtggdenkmohnijaaGreatDoor
open Go.ChangeShapes Go.WideShapes Go.ChangeAt Go.RowKit Go.Joins
set_option linter.unusedVariables false
set_option maxRecDepth 100000
theorem paired_len {t : T} (h : pairedB t = true) : t.l.length % 2 = 0 := by unfold pairedB at h; simp at h; exact h.2
theorem onceT_yes (k n x : Int) (s : ByteArray) (l : List T) (h : pairedB (.mk k n x s l) = true) : onceT (.mk k n x s l) = .mk k n x s (lastP (onceTs l)) := by
  rw [onceT]; unfold pairedB at h; simp only [T.k_mk, T.l_mk, Bool.and_eq_true] at h; rw [if_pos ⟨of_decide_eq_true h.1, of_decide_eq_true h.2⟩]
theorem onceT_no (k n x : Int) (s : ByteArray) (l : List T) (h : pairedB (.mk k n x s l) = false) : onceT (.mk k n x s l) = .mk k n x s (onceTs l) := by
  rw [onceT]; unfold pairedB at h; simp only [T.k_mk, T.l_mk, Bool.and_eq_false_iff] at h
  rw [if_neg (fun g => by rcases h with h | h; exact of_decide_eq_false h g.1; exact of_decide_eq_false h g.2)]
set_option maxHeartbeats 4000000 in
theorem spec_OnceLast : ∀ t : T, ∀ (a : Option Addr) (cap B : Nat) (w : World), R w B a cap t.l → Wf t → T.count t ≤ 1073741824 → B ≤ w.heap.size →
    Calls Tryz.prog 142 #[.agg (cV t a cap)] w fun e w' => ∃ a' cap', e = .returned (.agg (cV (onceT t) a' cap')) ∧ Own w' w.heap.size w'.heap.size a' cap' (onceT t).l ∧ Below w.heap.size w w' := by
  intro t
  induction t using T.ind with
  | h k n x s l ih =>
    intro a cap B w hr hwf hct hB
    have IH := Lib.hid ih; clear ih
    simp only [cV, T.k_mk, T.n_mk, T.x_mk, T.s_mk, T.l_mk] at hr ⊢
    simp only [T.count] at hct
    obtain ⟨hl1, hl2⟩ := hr.len
    have hlc := T.length_le_countL l
    have hoc := onceTs_count l
    have HR := Lib.hid hr; clear hr
    have HWF := Lib.hid hwf; clear hwf
    go_enter Tryz.func142, Tryz.ntmps142
    go_wp2_with fail
    generalize hW : ((w.alloc (Obj.cells #[Value.int IntKind.i64 k, Value.int IntKind.i64 n, Value.int IntKind.i64 x, Value.string s, Value.slice a l.length cap] 26)).alloc (Obj.cells zV 26)).alloc (Obj.cells #[Value.int IntKind.i64 k, Value.int IntKind.i64 n, Value.int IntKind.i64 x, Value.string s, Value.slice none 0 0] 26) = W0
    have q1 : Is W0 w.heap.size 26 #[Value.int IntKind.i64 k, Value.int IntKind.i64 n, Value.int IntKind.i64 x, Value.string s, Value.slice a l.length cap] := by subst hW; exact ((Is.new _ _ _).alloc _).alloc _
    have q2 : Is W0 (w.heap.size + 1) 26 zV := by subst hW; exact (Is.new2 _ _ _ _).alloc _
    have q3 : Is W0 (w.heap.size + 1 + 1) 26 #[Value.int IntKind.i64 k, Value.int IntKind.i64 n, Value.int IntKind.i64 x, Value.string s, Value.slice none 0 0] := by subst hW; exact Is.new3 _ _ _ _ _
    have hs0 : W0.heap.size = w.heap.size + 3 := by subst hW; simp
    have H0 := Lib.hid (show Below w.heap.size w W0 from by subst hW; exact below3 _ _ _ _)
    clear hW
    have HC := Lib.hid hct; clear hct
    go_loopw [4, 5] (fun i _ wr => ∃ (j : Nat) (ar : Option Addr) (cr : Nat), j ≤ l.length ∧ i = .int .i64 j ∧ Is wr (w.heap.size + 1 + 1) 26 #[Value.int IntKind.i64 k, Value.int IntKind.i64 n, Value.int IntKind.i64 x, Value.string s, Value.slice ar (onceTs (l.take j)).length cr] ∧ App TV 5 26 True wr (w.heap.size + 3) wr.heap.size ar cr (onceTs (l.take j)) ∧ Below (w.heap.size + 2) W0 wr) (fun i _ _ => l.length - (intOf i).toNat)
    case atStart => exact ⟨0, none, 0, Nat.zero_le _, rfl, q3, App.nil _ _ _, Below.refl _ _⟩
    case round =>
      obtain ⟨j, ar, cr, hj, rfl, hout, happ, hb⟩ := hrel
      have hbs := hb.size
      have hlen : (onceTs (l.take j)).length = j := by rw [onceTs_length, List.length_take]; omega
      have hlb1 : w.heap.size < wr.heap.size := by omega
      have hlb2 : w.heap.size + 1 + 1 < wr.heap.size := by omega
      by_cases hlt : j < l.length
      · obtain ⟨r0, r1, r2, r3, r4⟩ := (q1.below hb (by omega)).cells5
        obtain ⟨b, o, a2, cap2, rfl, hbl, d0, d1, d2, d3, d4, hwf, hq⟩ := ((HR.out.below H0.out hB).below hb (by omega)).get j hlt
        have hcj := T.count_get l j hlt
        have hlb : b < wr.heap.size := by omega
        have HWF := Lib.hid hwf; clear hwf
        have HA := Lib.hid happ; clear happ
        have HTS := Lib.hid (onceTs_take_succ l j hlt)
        rw [hlen] at hout
        go_wp2_with fail
        refine (IH.out l[j] (List.getElem_mem hlt) a2 cap2 B _ hq HWF.out (by have := HC.out; omega) (by omega)).mono ?_
        rintro e w2 ⟨a3, cap3, rfl, hown, hb2⟩
        obtain ⟨G, g1, g2, g3⟩ := hown
        have hs2 := hb2.size
        have hlb3 : w.heap.size + 1 + 1 < w2.heap.size := by omega
        have hout2 := hout.below hb2 (by omega)
        have ff := fun i => hout2.frozen i
        obtain ⟨o0, o1, o2, o3, o4⟩ := hout2.cells5
        have H2 := Lib.hid (below1 w2 (.cells (cV (onceT l[j]) a3 cap3) 26))
        have HB2 := Lib.hid hb2
        have HN := Lib.hid ((((HA.out.below TV.elem hb2 (Nat.le_refl _)).below TV.elem H2.out (by omega))).below TV.elem (below1 (w2.alloc (.cells (cV (onceT l[j]) a3 cap3) 26)) (.cells (cV (onceT l[j]) a3 cap3) 26)) (by simp; omega))
        have HTV := Lib.hid (TV.box (w := w2.alloc (.cells (cV (onceT l[j]) a3 cap3) 26)) 26 (g1.agree (fun f hf => H2.out.block f (g3 f hf).2.2.lt)) (onceT_wf HWF.out) (fun f hf => by have := (g3 f hf).2.2.lt; simp; omega))
        have HG := Lib.hid (show ∀ f ∈ G, wr.heap.size ≤ f ∧ f < ((w2.alloc (.cells (cV (onceT l[j]) a3 cap3) 26)).alloc (.cells (cV (onceT l[j]) a3 cap3) 26)).heap.size ∧ Unf ((w2.alloc (.cells (cV (onceT l[j]) a3 cap3) 26)).alloc (.cells (cV (onceT l[j]) a3 cap3) 26)) f from fun f hf => ⟨by have := (g3 f hf).1; omega, by have := (g3 f hf).2.1; simp; omega, ((g3 f hf).2.2.alloc _).alloc _⟩)
        have hout3 := Lib.hid ((hout2.alloc (.cells (cV (onceT l[j]) a3 cap3) 26)).alloc (.cells (cV (onceT l[j]) a3 cap3) 26))
        clear hb2 g1 g3 hout2
        go_wp2_with (at_builtin; refine wpList_app1 TV.elem rfl _ _ 24 rfl (.agg zV) 64 Tryz.underlying24 info_Val rfl (w.heap.size + 3) wr.heap.size ar cr (onceTs (l.take j)) (by first | rfl | (rw [hlen]; rfl)) HN.out (by simp; omega) (by omega) (w2.heap.size + 1) 0 1 (onceT l[j]) G (by first | rfl | simp) (by first | exact HTV.out | (have := HTV.out; simpa using this)) g2 HG.out (by rw [hlen]; unfold maxLen; omega) (by rw [hlen]; have := HC.out; omega) ?_; intro ar2 cr2 w3 happ3 hb3 _; have hout4 := hout3.out.below hb3 (by omega); have ff4 := (fun i => hout4.frozen i); obtain ⟨p0, p1, p2, p3, p4⟩ := hout4.cells5)
        go_roundw
        case rel =>
          have hlt3 := hout4.lt
          refine ⟨j + 1, ar2, cr2, by omega, by go_num, ?_, ?_, ?_⟩
          · rw [HTS.out, List.length_append, hlen]; exact hout4.set 4 _
          · rw [HTS.out, size_set]
            exact happ3.agree TV.elem (fun f hf _ => heap_miss _ _ _ _ (by omega) _)
          · exact (hb.trans ((HB2.out.trans ((H2.out.trans ((below1 _ _).mono (by simp))).mono (by omega))).mono (by omega))).trans ((hb3.mono (by omega)).trans (Below.setCell (Below.refl _ _) (p := ⟨w.heap.size + 1 + 1, 4, none⟩) (by simp) _))
        case measure => simp [intOf]; omega
      · have hjj : l.length = j := by omega
        have HJ := Lib.hid (show l.take j = l from by rw [← hjj, List.take_length])
        rw [HJ.out] at happ hout
        have HOL := Lib.hid (onceTs_length l)
        obtain ⟨L, hL⟩ : ∃ L, onceTs l = L := ⟨_, rfl⟩
        rw [hL] at happ hout HOL hoc
        have HL := Lib.hid hL; clear hL
        have hLl : L.length = l.length := HOL.out
        have p1 := q1.below hb (by omega)
        have p2 := q2.below hb (by omega)
        obtain ⟨r0, r1, r2, r3, r4⟩ := p1.cells5
        have hlb3 : w.heap.size + 1 < wr.heap.size := by omega
        have HON := Lib.hid (Own.ow.2 happ.own); clear happ
        have HLC := Lib.hid hLl; clear hLl hjj
        go_wp2_with fail
        refine (spec_l7Map (.mk k n x s l) a cap wr (by simp only [T.l_mk]; have := HC.out; omega)).mono ?_
        rintro e w2 ⟨rfl, hb2⟩
        have hs2 := hb2.size
        have m1 := p1.below hb2 hlb1
        have m2 := p2.below hb2 hlb3
        have m3 := hout.below hb2 hlb2
        have f2 := fun i => m2.frozen i
        have f3 := fun i => m3.frozen i
        obtain ⟨o0, o1, o2, o3, o4⟩ := m2.cells5
        obtain ⟨t0, t1, t2, t3, t4⟩ := m3.cells5
        have HO2 := Lib.hid (HON.out.below hb2 (Nat.le_refl _))
        have HB2 := Lib.hid ((H0.out.trans (hb.mono (by omega))).trans (hb2.mono (by omega))); clear hb2
        have l2 : w.heap.size + 1 < w2.heap.size := by omega
        have l3 : w.heap.size + 1 + 1 < w2.heap.size := by omega
        cases hp : pairedB (.mk k n x s l) with
        | false =>
          have HP := Lib.hid (onceT_no k n x s l hp); clear hp
          go_wp2_with fail
          obtain ⟨e0, e1, e2, e3, e4, hbel, hold, hsz⟩ := out5 m2.blk (.int .i64 k) (.int .i64 n) (.int .i64 x) (.string s) (.slice ar L.length cr) w.heap.size (by omega)
          refine bodyPost_ret (v := .agg (cV (.mk k n x s L) ar cr)) (by simp [results, Tryz.results142, go_sem, e0, e1, e2, e3, e4, T.k_mk, T.n_mk, T.x_mk, T.s_mk, T.l_mk]) rfl ⟨ar, cr, by rw [HP.out, HL.out], ?_, HB2.out.trans hbel⟩
          rw [hsz, HP.out, HL.out, T.l_mk]
          exact (HO2.out.agree (fun f h1 h2 => hold f (by omega))).more (by omega) (by omega)
        | true =>
          have HP := Lib.hid (onceT_yes k n x s l hp)
          have HEV := Lib.hid (show L.length % 2 = 0 from by rw [HLC.out]; exact paired_len hp)
          clear hp
          go_wp2_with fail
          obtain ⟨b, o, FE, hab, hrow, hnd, hFE⟩ := HO2.out.rows
          have h0 := AppL.empty (E := TV) (n := 5) (e := 26) w2 w2.heap.size (Nat.le_refl _)
          generalize hW : w2.alloc (Obj.cells #[] 26) = W1 at h0 ⊢
          have hs1 : W1.heap.size = w2.heap.size + 1 := by subst hW; simp
          have H1 := Lib.hid (show Below w2.heap.size w2 W1 from by subst hW; exact below1 _ _)
          clear hW
          have HRow := Lib.hid hrow; clear hrow
          have HND := Lib.hid hnd; clear hnd
          have HFE := Lib.hid hFE; clear hFE
          clear r0 r1 r2 r3 r4 o0 o1 o2 o3 o4 t0 t1 t2 t3 t4 f2 f3 p1 p2 q1 q2 q3 hout hb hbs m1
          have HLen := Lib.hid (show L.length ≤ 1073741824 from by have := HC.out; rw [HLC.out]; omega)
          go_loopw [6, 7, 8, 9] (fun q iv _ _ wr => ∃ (i p : Nat) (ak : Option Addr) (ck : Nat) (Fk : List Nat), i ≤ L.length ∧ iv = .int .i64 i ∧ Hid (i = 2 * p) ∧ q = .slice ak (keepN L p).length ck ∧ AppL TV 5 26 wr w2.heap.size ak ck (keepN L p) Fk ∧ KpO w2 b o L FE i Fk ∧ Below w2.heap.size w2 wr) (fun _ iv _ _ _ => L.length - (intOf iv).toNat)
          case atStart => exact ⟨0, 0, _, _, [], Nat.zero_le _, rfl, rfl, rfl, h0, KpO.start HRow.out, H1.out⟩
          case round =>
            rename World => wo
            obtain ⟨i, p, ak, ck, Fk, hi', rfl, HI, rfl, happ, hkp, hb⟩ := hrel
            have hbs := hb.size
            have hLen := HLen.out
            have x2 := m2.below hb l2
            have x3 := m3.below hb l3
            have g2 := fun i => x2.frozen i
            have g3 := fun i => x3.frozen i
            obtain ⟨c0, c1, c2, c3, c4⟩ := x2.cells5
            obtain ⟨d0, d1, d2, d3, d4⟩ := x3.cells5
            have n2 : w.heap.size + 1 < wo.heap.size := by omega
            have n3 : w.heap.size + 1 + 1 < wo.heap.size := by omega
            have hlen := keepN_len L p
            by_cases hlt : i < L.length
            · have hlt2 : i + 1 < L.length := by have := HI.out; have := HEV.out; omega
              obtain ⟨ha, hlob, hbhi⟩ := hab (by rintro e; rw [e] at hlt; simp at hlt)
              subst ha
              obtain ⟨Ga, Gb, tva, tvb, hGs, hGn, hk1, hk2⟩ := hkp.next hlt2 HND.out
              have HA := Lib.hid happ; clear happ
              have HK1 := Lib.hid hk1; clear hk1 hkp
              have HK2 := Lib.hid hk2; clear hk2
              have HRW := Lib.hid ((HO2.out.below hb (by omega)).read)
              go_wp2_with fail
              go_loopw [8, 9] (fun gv kv wq => ∃ (m : Nat) (g : Bool), gv = .bool g ∧ kv = .int .i64 m ∧ i + 2 ≤ m ∧ m ≤ L.length + 2 ∧ Hid (m % 2 = 0) ∧ Hid (hasNm L[i] (L.drop (i + 2)) = (g || hasNm L[i] (L.drop m))) ∧ Below wo.heap.size wo wq) (fun _ kv _ => L.length + 2 - (intOf kv).toNat)
              case atStart => exact ⟨i + 2, false, rfl, by go_num, Nat.le_refl _, by omega, by have := HI.out; show _ % 2 = 0; omega, by show _ = _; rw [Bool.false_or], Below.refl _ _⟩
              case round =>
                rename World => wq
                obtain ⟨m, g, rfl, rfl, hm1, hm2, HM, HN, hbq⟩ := hrel
                have hbqs := hbq.size
                have y3 := x3.below hbq n3
                obtain ⟨v0, v1, v2, v3, v4⟩ := y3.cells5
                have k3 : w.heap.size + 1 + 1 < wq.heap.size := by omega
                by_cases hlm : m < L.length
                · have hlm3 : m + 1 < L.length := by have := HM.out; have := HEV.out; omega
                  have HNo := Lib.hid (hasNm_odd L[i] L m hlm3)
                  cases g with
                  | true =>
                    go_wp2_with fail
                    refine wp_region_held_drew (S := fun w' => (∀ b o, b < wq.heap.size → w'.cell? ⟨b, o, none⟩ = wq.cell? ⟨b, o, none⟩) ∧ Below (wq.heap.size) wq w') (by kernel_rfl) (by first | exact ⟨fun _ _ _ => rfl, (Below.refl _ _).drew⟩ | exact keep_step (by assumption) (Below.drew (Below.refl _ _)) (Nat.le_refl _) | exact keep_step (by assumption) (by assumption) (by first | omega | ((try simp only [World.size_drew, size_alloc]); omega) | (have := (‹(_ ∧ Below (wq.heap.size) wq _)›).2.size; (try simp only [World.size_drew, size_alloc] at this ⊢); omega))) (fun hHeld => ?_)
                    refine wpAnyH_take (i := 0) (oi := ⟨some 59, _, _, _, _, _⟩) (v := ?_) rfl (by kernel_rfl) (by kernel_rfl) (by kernel_rfl) (fun _ _ _ h => h) (Or.inl ⟨by rfl, ?_⟩) (by assumption) ?_
                    rotate_left 1
                    · (intro w hSw; (try dsimp only at hSw); go_simp; try (with_reducible rfl))
                    try simp only [Act.put, List.setIfInBounds_toArray, List.set_cons_zero, List.set_cons_succ]
                    refine wpAnyH_take (i := 1) (oi := ⟨some 60, _, _, _, _, _⟩) (v := ?_) rfl (by kernel_rfl) (by kernel_rfl) (by kernel_rfl) (fun _ _ _ h => h) (Or.inl ⟨by rfl, ?_⟩) (by assumption) ?_
                    rotate_left 1
                    · (intro w hSw; (try dsimp only at hSw); go_simp; try (with_reducible rfl))
                    try simp only [Act.put, List.setIfInBounds_toArray, List.set_cons_zero, List.set_cons_succ]
                    refine wpAnyH_take (i := 2) (oi := ⟨some 61, _, _, _, _, _⟩) (v := undef) rfl (by kernel_rfl) (by kernel_rfl) (by kernel_rfl) (fun _ _ _ h => h) (Or.inr ⟨by rfl, rfl⟩) (by assumption) ?_
                    try simp only [Act.put, List.setIfInBounds_toArray, List.set_cons_zero, List.set_cons_succ]
                    refine wpAnyH_take (i := 3) (oi := ⟨some 62, _, _, _, _, _⟩) (v := undef) rfl (by kernel_rfl) (by kernel_rfl) (by kernel_rfl) (fun _ _ _ h => h) (Or.inr ⟨by rfl, rfl⟩) (by assumption) ?_
                    try simp only [Act.put, List.setIfInBounds_toArray, List.set_cons_zero, List.set_cons_succ]
                    refine wpAnyH_take (i := 4) (oi := ⟨some 63, _, _, _, _, _⟩) (v := undef) rfl (by kernel_rfl) (by kernel_rfl) (by kernel_rfl) (fun _ _ _ h => h) (Or.inr ⟨by rfl, rfl⟩) (by assumption) ?_
                    try simp only [Act.put, List.setIfInBounds_toArray, List.set_cons_zero, List.set_cons_succ]
                    refine wpAnyH_take (i := 5) (oi := ⟨some 64, _, _, _, _, _⟩) (v := undef) rfl (by kernel_rfl) (by kernel_rfl) (by kernel_rfl) (fun _ _ _ h => h) (Or.inr ⟨by rfl, rfl⟩) (by assumption) ?_
                    try simp only [Act.put, List.setIfInBounds_toArray, List.set_cons_zero, List.set_cons_succ]
                    refine wpAnyH_take (i := 6) (oi := ⟨some 65, _, _, _, _, _⟩) (v := undef) rfl (by kernel_rfl) (by kernel_rfl) (by kernel_rfl) (fun _ _ _ h => h) (Or.inr ⟨by rfl, rfl⟩) (by assumption) ?_
                    try simp only [Act.put, List.setIfInBounds_toArray, List.set_cons_zero, List.set_cons_succ]
                    refine wpAnyH_take (i := 7) (oi := ⟨some 66, _, _, _, _, _⟩) (v := undef) rfl (by kernel_rfl) (by kernel_rfl) (by kernel_rfl) (fun _ _ _ h => h) (Or.inr ⟨by rfl, rfl⟩) (by assumption) ?_
                    try simp only [Act.put, List.setIfInBounds_toArray, List.set_cons_zero, List.set_cons_succ]
                    refine wpAnyH_take (i := 8) (oi := ⟨some 67, _, _, _, _, _⟩) (v := undef) rfl (by kernel_rfl) (by kernel_rfl) (by kernel_rfl) (fun _ _ _ h => h) (Or.inr ⟨by rfl, rfl⟩) (by assumption) ?_
                    try simp only [Act.put, List.setIfInBounds_toArray, List.set_cons_zero, List.set_cons_succ]
                    refine wpAnyH_take (i := 9) (oi := ⟨some 68, _, _, _, _, _⟩) (v := undef) rfl (by kernel_rfl) (by kernel_rfl) (by kernel_rfl) (fun _ _ _ h => h) (Or.inr ⟨by rfl, rfl⟩) (by assumption) ?_
                    try simp only [Act.put, List.setIfInBounds_toArray, List.set_cons_zero, List.set_cons_succ]
                    refine wpAnyH_take (i := 10) (oi := ⟨some 69, _, _, _, _, _⟩) (v := undef) rfl (by kernel_rfl) (by kernel_rfl) (by kernel_rfl) (fun _ _ _ h => h) (Or.inr ⟨by rfl, rfl⟩) (by assumption) ?_
                    try simp only [Act.put, List.setIfInBounds_toArray, List.set_cons_zero, List.set_cons_succ]
                    refine wpAnyH_take (i := 11) (oi := ⟨some 70, _, _, _, _, _⟩) (v := undef) rfl (by kernel_rfl) (by kernel_rfl) (by kernel_rfl) (fun _ _ _ h => h) (Or.inr ⟨by rfl, rfl⟩) (by assumption) ?_
                    try simp only [Act.put, List.setIfInBounds_toArray, List.set_cons_zero, List.set_cons_succ]
                    refine wpAnyH_take (i := 12) (oi := ⟨some 71, _, _, _, _, _⟩) (v := undef) rfl (by kernel_rfl) (by kernel_rfl) (by kernel_rfl) (fun _ _ _ h => h) (Or.inr ⟨by rfl, rfl⟩) (by assumption) ?_
                    try simp only [Act.put, List.setIfInBounds_toArray, List.set_cons_zero, List.set_cons_succ]
                    refine wpAnyH_take (i := 13) (oi := ⟨some 72, _, _, _, _, _⟩) (v := ?_) rfl (by kernel_rfl) (by kernel_rfl) (by kernel_rfl) (fun _ _ _ h => h) (Or.inl ⟨by rfl, ?_⟩) (by assumption) ?_
                    rotate_left 1
                    · (intro w hSw; (try dsimp only at hSw); go_simp; try (with_reducible rfl))
                    try simp only [Act.put, List.setIfInBounds_toArray, List.set_cons_zero, List.set_cons_succ]
                    refine wpAnyH_take (i := 14) (oi := ⟨some 8, _, _, _, _, _⟩) (v := ?_) rfl (by kernel_rfl) (by kernel_rfl) (by kernel_rfl) (fun _ _ _ h => h) (Or.inl ⟨by rfl, ?_⟩) (by assumption) ?_
                    rotate_left 1
                    · (intro w hSw; (try dsimp only at hSw); go_simp; try (with_reducible rfl))
                    try simp only [Act.put, List.setIfInBounds_toArray, List.set_cons_zero, List.set_cons_succ]
                    refine wpAnyH_done (by kernel_rfl) ?_ _
                    have K := Lib.hid (hbq.trans ((‹_ ∧ Below (wq.heap.size) wq _›).2.mono hbqs))
                    go_wp2_with fail
                    go_roundw
                    case rel => exact ⟨m + 2, true, rfl, by go_num, by omega, by omega, by have := HM.out; show _ % 2 = 0; omega, by have := HN.out; show _ = _; rw [this]; simp, K.out⟩
                    case measure => simp [intOf]; omega
                  | false =>
                    obtain ⟨b1, o1, a4, cap4, hA1, hbl1, z0, z1, z2, z3, z4, hwf1, hq1⟩ := (HRW.out.below hbq (by omega)).get i hlt
                    obtain ⟨b2, o2, a5, cap5, hA2, hbl2, y0, y1, y2, y4, y5, hwf2, hq2⟩ := (HRW.out.below hbq (by omega)).get m hlm
                    injection hA1 with hA1
                    injection hA1 with hA3 hA4
                    subst hA3 hA4
                    injection hA2 with hA2
                    injection hA2 with hA5 hA6
                    subst hA5 hA6
                    have k1 : b < wq.heap.size := by omega
                    clear hwf1 hwf2
                    go_wp2_with fail
                    refine wp_region_held_drew (S := fun w' => (∀ b o, b < wq.heap.size → w'.cell? ⟨b, o, none⟩ = wq.cell? ⟨b, o, none⟩) ∧ Below (wq.heap.size) wq w') (by kernel_rfl) (by first | exact ⟨fun _ _ _ => rfl, (Below.refl _ _).drew⟩ | exact keep_step (by assumption) (Below.drew (Below.refl _ _)) (Nat.le_refl _) | exact keep_step (by assumption) (by assumption) (by first | omega | ((try simp only [World.size_drew, size_alloc]); omega) | (have := (‹(_ ∧ Below (wq.heap.size) wq _)›).2.size; (try simp only [World.size_drew, size_alloc] at this ⊢); omega))) (fun hHeld => ?_)
                    refine wpAnyH_take (i := 0) (oi := ⟨some 59, _, _, _, _, _⟩) (v := ?_) rfl (by kernel_rfl) (by kernel_rfl) (by kernel_rfl) (fun _ _ _ h => h) (Or.inl ⟨by rfl, ?_⟩) (by assumption) ?_
                    rotate_left 1
                    · (intro w hSw; (try dsimp only at hSw); go_simp; try (with_reducible rfl))
                    try simp only [Act.put, List.setIfInBounds_toArray, List.set_cons_zero, List.set_cons_succ]
                    refine wpAnyH_take (i := 1) (oi := ⟨some 60, _, _, _, _, _⟩) (v := ?_) rfl (by kernel_rfl) (by kernel_rfl) (by kernel_rfl) (fun _ _ _ h => h) (Or.inl ⟨by rfl, ?_⟩) (by assumption) ?_
                    rotate_left 1
                    · (intro w hSw; (try dsimp only at hSw); go_simp; try (with_reducible rfl))
                    try simp only [Act.put, List.setIfInBounds_toArray, List.set_cons_zero, List.set_cons_succ]
                    refine wpAnyH_take (i := 2) (oi := ⟨some 61, _, _, _, _, _⟩) (v := ?_) rfl (by kernel_rfl) (by kernel_rfl) (by kernel_rfl) (fun _ _ _ h => h) (Or.inl ⟨by rfl, ?_⟩) (by assumption) ?_
                    rotate_left 1
                    · (intro w hSw; (try dsimp only at hSw); go_simp; try (with_reducible rfl))
                    try simp only [Act.put, List.setIfInBounds_toArray, List.set_cons_zero, List.set_cons_succ]
                    refine wpAnyH_take (i := 3) (oi := ⟨some 62, _, _, _, _, _⟩) (v := ?_) rfl (by kernel_rfl) (by kernel_rfl) (by kernel_rfl) (fun _ _ _ h => h) (Or.inl ⟨by rfl, ?_⟩) (by assumption) ?_
                    rotate_left 1
                    · (intro w hSw; (try dsimp only at hSw); go_simp; try (with_reducible rfl))
                    try simp only [Act.put, List.setIfInBounds_toArray, List.set_cons_zero, List.set_cons_succ]
                    refine wpAnyH_take (i := 4) (oi := ⟨some 63, _, _, _, _, _⟩) (v := ?_) rfl (by kernel_rfl) (by kernel_rfl) (by kernel_rfl) (fun _ _ _ h => h) (Or.inl ⟨by rfl, ?_⟩) (by assumption) ?_
                    rotate_left 1
                    · (intro w hSw; (try dsimp only at hSw); go_simp; try (with_reducible rfl))
                    try simp only [Act.put, List.setIfInBounds_toArray, List.set_cons_zero, List.set_cons_succ]
                    refine wpAnyH_take (i := 5) (oi := ⟨some 64, _, _, _, _, _⟩) (v := ?_) rfl (by kernel_rfl) (by kernel_rfl) (by kernel_rfl) (fun _ _ _ h => h) (Or.inl ⟨by rfl, ?_⟩) (by assumption) ?_
                    rotate_left 1
                    · (intro w hSw; (try dsimp only at hSw); go_simp; try (with_reducible rfl))
                    try simp only [Act.put, List.setIfInBounds_toArray, List.set_cons_zero, List.set_cons_succ]
                    refine wpAnyH_take (i := 6) (oi := ⟨some 65, _, _, _, _, _⟩) (v := ?_) rfl (by kernel_rfl) (by kernel_rfl) (by kernel_rfl) (fun _ _ _ h => h) (Or.inl ⟨by rfl, ?_⟩) (by assumption) ?_
                    rotate_left 1
                    · (intro w hSw; (try dsimp only at hSw); go_simp; try (with_reducible rfl))
                    try simp only [Act.put, List.setIfInBounds_toArray, List.set_cons_zero, List.set_cons_succ]
                    refine wpAnyH_take (i := 7) (oi := ⟨some 66, _, _, _, _, _⟩) (v := ?_) rfl (by kernel_rfl) (by kernel_rfl) (by kernel_rfl) (fun _ _ _ h => h) (Or.inl ⟨by rfl, ?_⟩) (by assumption) ?_
                    rotate_left 1
                    · (intro w hSw; (try dsimp only at hSw); go_simp; try (with_reducible rfl))
                    try simp only [Act.put, List.setIfInBounds_toArray, List.set_cons_zero, List.set_cons_succ]
                    refine wpAnyH_take (i := 8) (oi := ⟨some 67, _, _, _, _, _⟩) (v := ?_) rfl (by kernel_rfl) (by kernel_rfl) (by kernel_rfl) (fun _ _ _ h => h) (Or.inl ⟨by rfl, ?_⟩) (by assumption) ?_
                    rotate_left 1
                    · (intro w hSw; (try dsimp only at hSw); go_simp; try (with_reducible rfl))
                    try simp only [Act.put, List.setIfInBounds_toArray, List.set_cons_zero, List.set_cons_succ]
                    refine wpAnyH_take (i := 9) (oi := ⟨some 68, _, _, _, _, _⟩) (v := ?_) rfl (by kernel_rfl) (by kernel_rfl) (by kernel_rfl) (fun _ _ _ h => h) (Or.inl ⟨by rfl, ?_⟩) (by assumption) ?_
                    rotate_left 1
                    · (intro w hSw; (try dsimp only at hSw); go_simp; try (with_reducible rfl))
                    try simp only [Act.put, List.setIfInBounds_toArray, List.set_cons_zero, List.set_cons_succ]
                    refine wpAnyH_take (i := 10) (oi := ⟨some 69, _, _, _, _, _⟩) (v := ?_) rfl (by kernel_rfl) (by kernel_rfl) (by kernel_rfl) (fun _ _ _ h => h) (Or.inl ⟨by rfl, ?_⟩) (by assumption) ?_
                    rotate_left 1
                    · (intro w hSw; (try dsimp only at hSw); go_simp; try (with_reducible rfl))
                    try simp only [Act.put, List.setIfInBounds_toArray, List.set_cons_zero, List.set_cons_succ]
                    refine wpAnyH_take (i := 11) (oi := ⟨some 70, _, _, _, _, _⟩) (v := ?_) rfl (by kernel_rfl) (by kernel_rfl) (by kernel_rfl) (fun _ _ _ h => h) (Or.inl ⟨by rfl, ?_⟩) (by assumption) ?_
                    rotate_left 1
                    · (intro w hSw; (try dsimp only at hSw); go_simp; try (with_reducible rfl))
                    try simp only [Act.put, List.setIfInBounds_toArray, List.set_cons_zero, List.set_cons_succ]
                    refine wpAnyH_ready (rs := [12]) (by kernel_rfl) (by simp) ?_
                    refine AllReadyH.cons (o := ⟨some 71, _, _, _, _, _⟩) rfl (fun K hK => ?_) AllReadyH.nil
                    go_simp
                    (first | (go_at_call 176; refine (spec_SameVal L[i] L[m] _ _ _ _ wr.heap.size _ (hq1.below (‹_ ∧ Below (wq.heap.size) wq _›).2 (by omega)) (hq2.below (‹_ ∧ Below (wq.heap.size) wq _›).2 (by omega)) (by have := (‹_ ∧ Below (wq.heap.size) wq _›).2.size; omega)).mono ?_; rintro e w5 ⟨rfl, hb5⟩))
                    go_wp2_with fail
                    refine hK.out _ _ (by first | exact ⟨fun _ _ _ => rfl, (Below.refl _ _).drew⟩ | exact keep_step (by assumption) (Below.drew (Below.refl _ _)) (Nat.le_refl _) | exact keep_step (by assumption) (by assumption) (by first | omega | ((try simp only [World.size_drew, size_alloc]); omega) | (have := (‹(_ ∧ Below (wq.heap.size) wq _)›).2.size; (try simp only [World.size_drew, size_alloc] at this ⊢); omega))) (fun hHeld => ?_)
                    clear hK K
                    try simp only [Act.put, List.setIfInBounds_toArray, List.set_cons_zero, List.set_cons_succ]
                    refine wpAnyH_take (i := 13) (oi := ⟨some 72, _, _, _, _, _⟩) (v := ?_) rfl (by kernel_rfl) (by kernel_rfl) (by kernel_rfl) (fun _ _ _ h => h) (Or.inl ⟨by rfl, ?_⟩) (by assumption) ?_
                    rotate_left 1
                    · (intro w hSw; (try dsimp only at hSw); go_simp; try (with_reducible rfl))
                    try simp only [Act.put, List.setIfInBounds_toArray, List.set_cons_zero, List.set_cons_succ]
                    refine wpAnyH_take (i := 14) (oi := ⟨some 8, _, _, _, _, _⟩) (v := ?_) rfl (by kernel_rfl) (by kernel_rfl) (by kernel_rfl) (fun _ _ _ h => h) (Or.inl ⟨by rfl, ?_⟩) (by assumption) ?_
                    rotate_left 1
                    · (intro w hSw; (try dsimp only at hSw); go_simp; try (with_reducible rfl))
                    try simp only [Act.put, List.setIfInBounds_toArray, List.set_cons_zero, List.set_cons_succ]
                    refine wpAnyH_done (by kernel_rfl) ?_ _
                    have K := Lib.hid (hbq.trans ((‹_ ∧ Below (wq.heap.size) wq _›).2.mono hbqs))
                    clear hb5
                    go_wp2_with fail
                    go_roundw
                    case rel => exact ⟨m + 2, sameT L[i] L[m], rfl, by go_num, by omega, by omega, by have := HM.out; show _ % 2 = 0; omega, by have := HN.out; show _ = _; rw [this, HNo.out, Bool.false_or], K.out⟩
                    case measure => simp [intOf]; omega
                · have HNe := Lib.hid (show hasNm L[i] (L.drop (i + 2)) = g from by rw [HN.out, hasNm_end L[i] L m (by omega), Bool.or_false])
                  have HBQ := Lib.hid (hb.trans (hbq.mono hbs))
                  have HA3 := Lib.hid (HA.out.agree TV.elem (fun f hf => hbq.block f hf) (by omega))
                  cases g with
                  | true =>
                    have HKN := Lib.hid (keepN_succ_no L p i HI.out hlt HNe.out)
                    go_wp2_with fail
                    go_roundw
                    case rel => exact ⟨i + 2, p + 1, ak, ck, Fk, by omega, by go_num, by have := HI.out; show _ = _; omega, by rw [HKN.out], by rw [HKN.out]; exact HA3.out, HK1.out, HBQ.out⟩
                    case measure => simp [intOf]; omega
                  | false =>
                    have HKN := Lib.hid (keepN_succ_yes L p i HI.out hlt hlt2 HNe.out)
                    have hblk : ∀ f, f < w2.heap.size → wq.heap[f]? = w2.heap[f]? := fun f hf => HBQ.out.block f hf
                    have hva := tva.agree (w' := wq) _ (Cells.of_block (hblk b (by omega)) _ _) (fun f hf => hblk f (by have := (HFE.out f (hGs f (by simp [hf]))).2.1; omega))
                    have hvb := tvb.agree (w' := wq) _ (Cells.of_block (hblk b (by omega)) _ _) (fun f hf => hblk f (by have := (HFE.out f (hGs f (by simp [hf]))).2.1; omega))
                    have HGL := Lib.hid (show ∀ f ∈ Ga ++ Gb, f < w2.heap.size from fun f hf => by have := (HFE.out f (hGs f hf)).2.1; omega)
                    rw [← T.eta L[i], TV.iff] at hva
                    rw [← T.eta L[i + 1], TV.iff] at hvb
                    obtain ⟨u0, u1, u2, u3, u4, u5, u6, u7, aa, ca, u8, hta⟩ := hva
                    obtain ⟨z0, z1, z2, z3, z4, z5, z6, z7, ab, cb, z8, htb⟩ := hvb
                    have HTA := Lib.hid hta; clear hta
                    have HTB := Lib.hid htb; clear htb
                    have HWA := Lib.hid (show Wf L[i] from ⟨u4, u5, u6, u7⟩)
                    have HWB := Lib.hid (show Wf L[i + 1] from ⟨z4, z5, z6, z7⟩)
                    have hbw : b < w2.heap.size := by omega
                    have hw1 : IntKind.i64.wrap ((i : Int) + 1) = (i : Int) + 1 := wrap_i64O _ (by omega) (by omega)
                    have hcond : 0 ≤ (i : Int) + 1 ∧ (i : Int) + 1 < L.length := by omega
                    have htn : ((i : Int) + 1).toNat = i + 1 := by omega
                    have hl2q : w2.heap.size ≤ wq.heap.size := by omega
                    clear u4 u5 u6 u7 z4 z5 z6 z7 tva tvb hblk
                    go_wp2_with fail
                    refine wp_region_held_drew (S := fun w' => (∀ b o, b < w2.heap.size → w'.cell? ⟨b, o, none⟩ = wq.cell? ⟨b, o, none⟩) ∧ Below (w2.heap.size) wq w') (by kernel_rfl) (by first | exact ⟨fun _ _ _ => rfl, (Below.refl _ _).drew⟩ | exact keep_step (by assumption) (Below.drew (Below.refl _ _)) (Nat.le_refl _) | exact keep_step (by assumption) (by assumption) (by first | omega | ((try simp only [World.size_drew, size_alloc]); omega) | (have := (‹(_ ∧ Below (w2.heap.size) wq _)›).2.size; (try simp only [World.size_drew, size_alloc] at this ⊢); omega))) (fun hHeld => ?_)
                    refine wpAnyH_take (i := 0) (oi := ⟨some 75, _, _, _, _, _⟩) (v := ?_) rfl (by kernel_rfl) (by kernel_rfl) (by kernel_rfl) (fun _ _ _ h => h) (Or.inl ⟨by rfl, ?_⟩) (by assumption) ?_
                    rotate_left 1
                    · (intro w hSw; (try dsimp only at hSw); go_simp; (try simp only [hw1, if_pos hcond, htn]); try (with_reducible rfl))
                    try simp only [Act.put, List.setIfInBounds_toArray, List.set_cons_zero, List.set_cons_succ]
                    refine wpAnyH_take (i := 1) (oi := ⟨some 76, _, _, _, _, _⟩) (v := ?_) rfl (by kernel_rfl) (by kernel_rfl) (by kernel_rfl) (fun _ _ _ h => h) (Or.inl ⟨by rfl, ?_⟩) (by assumption) ?_
                    rotate_left 1
                    · (intro w hSw; (try dsimp only at hSw); go_simp; (try simp only [hw1, if_pos hcond, htn]); try (with_reducible rfl))
                    try simp only [Act.put, List.setIfInBounds_toArray, List.set_cons_zero, List.set_cons_succ]
                    refine wpAnyH_take (i := 2) (oi := ⟨some 77, _, _, _, _, _⟩) (v := ?_) rfl (by kernel_rfl) (by kernel_rfl) (by kernel_rfl) (fun _ _ _ h => h) (Or.inl ⟨by rfl, ?_⟩) (by assumption) ?_
                    rotate_left 1
                    · (intro w hSw; (try dsimp only at hSw); go_simp; (try simp only [hw1, if_pos hcond, htn]); try (with_reducible rfl))
                    try simp only [Act.put, List.setIfInBounds_toArray, List.set_cons_zero, List.set_cons_succ]
                    refine wpAnyH_take (i := 3) (oi := ⟨some 78, _, _, _, _, _⟩) (v := ?_) rfl (by kernel_rfl) (by kernel_rfl) (by kernel_rfl) (fun _ _ _ h => h) (Or.inl ⟨by rfl, ?_⟩) (by assumption) ?_
                    rotate_left 1
                    · (intro w hSw; (try dsimp only at hSw); go_simp; (try simp only [hw1, if_pos hcond, htn]); try (with_reducible rfl))
                    try simp only [Act.put, List.setIfInBounds_toArray, List.set_cons_zero, List.set_cons_succ]
                    refine wpAnyH_take (i := 4) (oi := ⟨some 79, _, _, _, _, _⟩) (v := ?_) rfl (by kernel_rfl) (by kernel_rfl) (by kernel_rfl) (fun _ _ _ h => h) (Or.inl ⟨by rfl, ?_⟩) (by assumption) ?_
                    rotate_left 1
                    · (intro w hSw; (try dsimp only at hSw); go_simp; (try simp only [hw1, if_pos hcond, htn]); try (with_reducible rfl))
                    try simp only [Act.put, List.setIfInBounds_toArray, List.set_cons_zero, List.set_cons_succ]
                    refine wpAnyH_take (i := 5) (oi := ⟨some 80, _, _, _, _, _⟩) (v := ?_) rfl (by kernel_rfl) (by kernel_rfl) (by kernel_rfl) (fun _ _ _ h => h) (Or.inl ⟨by rfl, ?_⟩) (by assumption) ?_
                    rotate_left 1
                    · (intro w hSw; (try dsimp only at hSw); go_simp; (try simp only [hw1, if_pos hcond, htn]); try (with_reducible rfl))
                    try simp only [Act.put, List.setIfInBounds_toArray, List.set_cons_zero, List.set_cons_succ]
                    refine wpAnyH_take (i := 6) (oi := ⟨some 81, _, _, _, _, _⟩) (v := ?_) rfl (by kernel_rfl) (by kernel_rfl) (by kernel_rfl) (fun _ _ _ h => h) (Or.inl ⟨by rfl, ?_⟩) (by assumption) ?_
                    rotate_left 1
                    · (intro w hSw; (try dsimp only at hSw); go_simp; (try simp only [hw1, if_pos hcond, htn]); try (with_reducible rfl))
                    try simp only [Act.put, List.setIfInBounds_toArray, List.set_cons_zero, List.set_cons_succ]
                    refine wpAnyH_take (i := 7) (oi := ⟨some 82, _, _, _, _, _⟩) (v := ?_) rfl (by kernel_rfl) (by kernel_rfl) (by kernel_rfl) (fun _ _ _ h => h) (Or.inl ⟨by rfl, ?_⟩) (by assumption) ?_
                    rotate_left 1
                    · (intro w hSw; (try dsimp only at hSw); go_simp; (try simp only [hw1, if_pos hcond, htn]); try (with_reducible rfl))
                    try simp only [Act.put, List.setIfInBounds_toArray, List.set_cons_zero, List.set_cons_succ]
                    refine wpAnyH_take (i := 8) (oi := ⟨some 83, _, _, _, _, _⟩) (v := ?_) rfl (by kernel_rfl) (by kernel_rfl) (by kernel_rfl) (fun _ _ _ h => h) (Or.inl ⟨by rfl, ?_⟩) (by assumption) ?_
                    rotate_left 1
                    · (intro w hSw; (try dsimp only at hSw); go_simp; (try simp only [hw1, if_pos hcond, htn]); try (with_reducible rfl))
                    try simp only [Act.put, List.setIfInBounds_toArray, List.set_cons_zero, List.set_cons_succ]
                    refine wpAnyH_take (i := 9) (oi := ⟨some 84, _, _, _, _, _⟩) (v := ?_) rfl (by kernel_rfl) (by kernel_rfl) (by kernel_rfl) (fun _ _ _ h => h) (Or.inl ⟨by rfl, ?_⟩) (by assumption) ?_
                    rotate_left 1
                    · (intro w hSw; (try dsimp only at hSw); go_simp; (try simp only [hw1, if_pos hcond, htn]); try (with_reducible rfl))
                    try simp only [Act.put, List.setIfInBounds_toArray, List.set_cons_zero, List.set_cons_succ]
                    refine wpAnyH_take (i := 10) (oi := ⟨some 85, _, _, _, _, _⟩) (v := ?_) rfl (by kernel_rfl) (by kernel_rfl) (by kernel_rfl) (fun _ _ _ h => h) (Or.inl ⟨by rfl, ?_⟩) (by assumption) ?_
                    rotate_left 1
                    · (intro w hSw; (try dsimp only at hSw); go_simp; (try simp only [hw1, if_pos hcond, htn]); try (with_reducible rfl))
                    try simp only [Act.put, List.setIfInBounds_toArray, List.set_cons_zero, List.set_cons_succ]
                    refine wpAnyH_take (i := 11) (oi := ⟨some 86, _, _, _, _, _⟩) (v := ?_) rfl (by kernel_rfl) (by kernel_rfl) (by kernel_rfl) (fun _ _ _ h => h) (Or.inl ⟨by rfl, ?_⟩) (by assumption) ?_
                    rotate_left 1
                    · (intro w hSw; (try dsimp only at hSw); go_simp; (try simp only [hw1, if_pos hcond, htn]); try (with_reducible rfl))
                    try simp only [Act.put, List.setIfInBounds_toArray, List.set_cons_zero, List.set_cons_succ]
                    refine wpAnyH_ready (rs := [12]) (by kernel_rfl) (by simp) ?_
                    refine AllReadyH.cons (o := ⟨some 87, _, _, _, _, _⟩) rfl (fun K hK => ?_) AllReadyH.nil
                    go_simp
                    go_wp2_with fail
                    refine hK.out _ _ (by first | (with_reducible exact keep_step (by assumption) (below1 _ _) (by first | omega | ((try simp only [World.size_drew, size_alloc]); omega) | (have := (‹(_ ∧ Below (w2.heap.size) wq _)›).2.size; (try simp only [World.size_drew, size_alloc] at this ⊢); omega))) | (exact keep_step (by assumption) (below1 _ _) (by first | omega | ((try simp only [World.size_drew, size_alloc]); omega) | (have := (‹(_ ∧ Below (w2.heap.size) wq _)›).2.size; (try simp only [World.size_drew, size_alloc] at this ⊢); omega)))) (fun hHeld => ?_)
                    clear hK K
                    try simp only [Act.put, List.setIfInBounds_toArray, List.set_cons_zero, List.set_cons_succ]
                    refine wpAnyH_ready (rs := [13]) (by kernel_rfl) (by simp) ?_
                    refine AllReadyH.cons (o := ⟨some 88, _, _, _, _, _⟩) rfl (fun K hK => ?_) AllReadyH.nil
                    focus (((refine step_appL TV.elem rfl _ _ 24 rfl (.agg zV) 64 Tryz.underlying24 info_Val rfl w2.heap.size ak ck (keepN L p) Fk rfl (HA3.out.agree TV.elem (fun f hf => (below1 wq.drew _).block f hf) (by omega)) (by simp; omega) wq.heap.size 0 2 2 [L[i], L[i + 1]] (Ga ++ Gb) rfl rfl (pair_new (w := wq.drew) 26 (HTA.out.agree (fun _ _ => rfl)) (HTB.out.agree (fun _ _ => rfl)) HWA.out HWB.out (fun f hf => by have := HGL.out f hf; simp only [World.size_drew]; omega)) HGL.out (by omega) (by have := HI.out; unfold maxLen; omega) (by have := HI.out; omega) ?_; intro ar2 cr2 w4 happ4 hb4)); refine hK.out _ _ (by first | (with_reducible exact keep_step (by assumption) (by assumption) (by first | omega | ((try simp only [World.size_drew, size_alloc]); omega) | (have := (‹(_ ∧ Below (w2.heap.size) wq _)›).2.size; (try simp only [World.size_drew, size_alloc] at this ⊢); omega))) | first | exact ⟨fun _ _ _ => rfl, (Below.refl _ _).drew⟩ | exact keep_step (by assumption) (Below.drew (Below.refl _ _)) (Nat.le_refl _) | exact keep_step (by assumption) (by assumption) (by first | omega | ((try simp only [World.size_drew, size_alloc]); omega) | (have := (‹(_ ∧ Below (w2.heap.size) wq _)›).2.size; (try simp only [World.size_drew, size_alloc] at this ⊢); omega))) (fun hHeld => ?_); clear hK K; try simp only [Act.put, List.setIfInBounds_toArray, List.set_cons_zero, List.set_cons_succ])
                    refine wpAnyH_take (i := 14) (oi := ⟨some 6, _, _, _, _, _⟩) (v := ?_) rfl (by kernel_rfl) (by kernel_rfl) (by kernel_rfl) (fun _ _ _ h => h) (Or.inl ⟨by rfl, ?_⟩) (by assumption) ?_
                    rotate_left 1
                    · (intro w hSw; (try dsimp only at hSw); go_simp; (try simp only [hw1, if_pos hcond, htn]); try (with_reducible rfl))
                    try simp only [Act.put, List.setIfInBounds_toArray, List.set_cons_zero, List.set_cons_succ]
                    refine wpAnyH_done (by kernel_rfl) ?_ _
                    have HB4 := Lib.hid (HBQ.out.trans ((((Below.refl w2.heap.size wq).drew).trans ((below1 wq.drew (.cells #[Value.int IntKind.i64 L[i].k, Value.int IntKind.i64 L[i].n, Value.int IntKind.i64 L[i].x, Value.string L[i].s, Value.slice aa L[i].l.length ca, Value.int IntKind.i64 L[i + 1].k, Value.int IntKind.i64 L[i + 1].n, Value.int IntKind.i64 L[i + 1].x, Value.string L[i + 1].s, Value.slice ab L[i + 1].l.length cb] 26)).mono (by simp only [World.size_drew]; omega))).trans hb4))
                    clear hb4
                    go_wp2_with fail
                    go_roundw
                    case rel => exact ⟨i + 2, p + 1, ar2, cr2, Fk ++ (Ga ++ Gb), by omega, by go_num, by have := HI.out; show _ = _; omega, by rw [HKN.out, List.length_append]; rfl, by rw [HKN.out]; exact happ4, HK2.out, HB4.out⟩
                    case measure => simp [intOf]; omega
            · have hjj : L.length = i := by omega
              have HLP := Lib.hid (show keepN L p = lastP L from by unfold lastP; rw [show L.length / 2 = p from by have := HI.out; omega]); clear hjj
              have HAP := Lib.hid happ; clear happ
              have HKP := Lib.hid hkp.sub; clear hkp
              go_wp2_with fail
              have hk : Blk (wo.setCell ⟨w.heap.size + 1 + 1, 4, none⟩ (.slice ak (keepN L p).length ck)) (w.heap.size + 1) 26 5 := x2.blk.agree (heap_miss _ _ _ _ (by omega) _)
              obtain ⟨e0, e1, e2, e3, e4, hbel, hold, hsz⟩ := out5 hk (.int .i64 k) (.int .i64 n) (.int .i64 x) (.string s) (.slice ak (keepN L p).length ck) w.heap.size (by omega)
              have hfar : ∀ f, f ≠ w.heap.size + 1 + 1 → f ≠ w.heap.size + 1 → (((((((wo.setCell ⟨w.heap.size + 1 + 1, 4, none⟩ (.slice ak (keepN L p).length ck)).setCell ⟨w.heap.size + 1, 0, none⟩ (.int .i64 k)).setCell ⟨w.heap.size + 1, 1, none⟩ (.int .i64 n)).setCell ⟨w.heap.size + 1, 2, none⟩ (.int .i64 x)).setCell ⟨w.heap.size + 1, 3, none⟩ (.string s)).setCell ⟨w.heap.size + 1, 4, none⟩ (.slice ak (keepN L p).length ck))).heap[f]? = wo.heap[f]? := fun f h1 h2 => (hold f h2).trans (heap_miss _ _ _ _ h1 _)
              refine bodyPost_ret (v := .agg (cV (.mk k n x s (keepN L p)) ak ck)) (by simp [results, Tryz.results142, go_sem, e0, e1, e2, e3, e4, T.k_mk, T.n_mk, T.x_mk, T.s_mk, T.l_mk]) rfl ⟨ak, ck, by rw [HP.out, HL.out, HLP.out], ?_, (HB2.out.trans (hb.mono (by omega))).trans ((Below.setCell (Below.refl _ _) (p := ⟨w.heap.size + 1 + 1, 4, none⟩) (by simp; omega) _).trans hbel)⟩
              rw [HP.out, HL.out, T.l_mk, ← HLP.out]
              refine (Own.ow.2 ((HAP.out.agree2 TV.elem (fun f h1 h2 => hfar f (by omega) (by omega)) (fun f hf => hfar f (by have := (HFE.out f (HKP.out.1 f hf)).1; omega) (by have := (HFE.out f (HKP.out.1 f hf)).1; omega))).own (lo := w.heap.size + 3) HKP.out.2 (by omega) (fun f hf => ⟨(HFE.out f (HKP.out.1 f hf)).1, ?_⟩))).more (by omega) (Nat.le_refl _)
              have hf3 := HFE.out f (HKP.out.1 f hf)
              exact (hf3.2.2.agree (hb.block f (by omega))).agree (hfar f (by omega) (by omega))
end Go.Proofs.YtggdenkmohnijaaGreatDoor
