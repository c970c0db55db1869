/- Texts of this proof, merged: TigG, DrwT. No condition beyond what each theorem states. -/
import Derived.Test.YtggdenkmohnijaaGreatDoorZO24
set_option linter.unusedSimpArgs false
set_option linter.unnecessarySimpa false
namespace Go.Proofs.YtggdenkmohnijaaGreatDoor
open Go.ChangeShapes Go.WideShapes Go.ChangeAt Go.RowKit Go.Joins
set_option linter.unusedVariables false
set_option maxRecDepth 100000
def outG (k : Int) (l : List T) (j : Nat) : List T := if k = 10 then fixN [] ((l.map tg).take j) else (l.map tg).take j
theorem outG_len (k : Int) (l : List T) (j : Nat) (hj : j ≤ l.length) : (outG k l j).length = j := by
 unfold outG; split
 ·rw [fixN_len]; simp; omega
 ·simp; omega
theorem outG_count (k : Int) (l : List T) (j : Nat) (hj : j ≤ l.length) (h : ∀ t ∈ l, AllT drQ t) : T.countL (outG k l j) ≤ T.countL l := by
 have h1 := countL_map (f := tg) l (fun t ht => tg_count t (h t ht)) j
 have h2 := T.countL_take_le l j
 unfold outG; split
 ·have := fixN_count (l.map tg) j (by simpa using hj); omega
 ·omega
theorem outG_sz (k : Int) (l : List T) (hl : l.length ≤ 6) (h : ∀ t ∈ l, AllT drQ t) (hd : ∀ t ∈ l, T.depth t ≤ 4) : ∀ u ∈ outG k l l.length, T.sz u ≤ 1048576 := by
 have h1 : ∀ u ∈ l.map tg, T.sz u ≤ 1048576 := by
  intro u hu
  obtain ⟨v, hv, rfl⟩ := List.mem_map.1 hu
  obtain ⟨a1, a2⟩ := tg_ok v (h v hv)
  have := tq_sz (tg v) 4 a1 (Nat.le_trans a2 (hd v hv))
  have e5 : szB 4 = 53354 := by decide
  omega
 intro u hu
 unfold outG at hu
 rw [List.take_of_length_le (by simp)] at hu
 split at hu
 ·have hmm := fixN_mem (l.map tg) _ (Nat.le_refl _)
  rw [List.take_length] at hmm
  rcases hmm u hu with hh | ⟨i, hi, rfl⟩
  ·exact h1 u hh
  ·have := kName_size i (by simp at hi; omega)
   have e : T.sz (kName i) = (kName i).s.size := by unfold kName; rw [sz_of]; simp [T.szL, T.s]
   omega
 ·exact h1 u hu
def nextG (k : Int) (l : List T) (j : Nat) (x : T) : T := if (k = 10 ∧ j % 2 = 0) ∧ hasP (outG k l j) x = true then kName j else x
theorem outG_succ (k : Int) (l : List T) (j : Nat) (hj : j < l.length) : outG k l (j + 1) = outG k l j ++ [nextG k l j (tg l[j])] := by
 have hm : j < (l.map tg).length := by simpa using hj
 unfold nextG outG
 by_cases hk : k = 10
 ·rw [if_pos hk, if_pos hk, fixN_take _ j hm, List.getElem_map]
  simp only [hk, true_and]; rfl
 ·rw [if_neg hk, if_neg hk, take_snoc _ j hm, List.getElem_map, if_neg (fun h => hk h.1.1)]
theorem nextG_no {k : Int} {l : List T} {j : Nat} {x : T} (h : ¬ (k = 10 ∧ j % 2 = 0)) : nextG k l j x = x := by unfold nextG; rw [if_neg (fun hh => h hh.1)]
theorem nextG_yes {k : Int} {l : List T} {j : Nat} {x : T} (h : k = 10 ∧ j % 2 = 0) {b : Bool} (hb : hasP (outG k l j) x = b) : nextG k l j x = if b = true then kName j else x := by
 unfold nextG; rw [hb]
 by_cases hc : b = true
 ·rw [if_pos ⟨h, hc⟩, if_pos hc]
 ·rw [if_neg (fun hh => hc hh.2), if_neg hc]
set_option maxHeartbeats 16000000 in
theorem spec_l13Tighter : ∀ t : T, ∀ (a : Option Addr) (cap B : Nat) (w : World), R w B a cap t.l → Wf t → B ≤ w.heap.size → T.count t ≤ 1073741824 → AllT drQ t → T.depth t ≤ 4 →
  Calls Tryz.prog 61 #[.agg (cV t a cap)] w fun e w' => ∃ a' cap', e = .returned (.agg (cV (tg t) a' cap')) ∧ Wf (tg t) ∧ Own w' w.heap.size w'.heap.size a' cap' (tg t).l ∧ Below w.heap.size w w' := by
 intro t
 induction t using T.ind with
 | h k n x s l ih =>
  intro a cap B w hr hwf hB hct hall hdp
  have HDL := Lib.hid (show ∀ u ∈ l, T.depth u ≤ 4 from fun u hu => by
   obtain ⟨i, hi, he⟩ := List.getElem_of_mem hu
   have := T.depth_get l i hi
   rw [he] at this
   simp only [T.depth] at hdp; omega)
  have HOK := Lib.hid (hall)
  have HD0 := Lib.hid hdp; clear hdp
  obtain ⟨P, hP⟩ : ∃ P, tg (.mk k n x s l) = P := ⟨_, rfl⟩
  rw [hP]
  have HP := Lib.hid hP; clear hP
  have IH := Lib.hid ih; clear ih
  rw [AllT_iff] at hall
  obtain ⟨⟨hq, hs, hl6, hnm⟩, hall⟩ := hall
  simp only [T.k, T.n, T.x, T.s, T.l] at hr hq hs hl6 hnm hall
  rw [show cV (.mk k n x s l) a cap = #[Value.int IntKind.i64 k, Value.int IntKind.i64 n, Value.int IntKind.i64 x, Value.string s, Value.slice a l.length cap] from rfl]
  simp only [T.count] at hct
  obtain ⟨hl1, hl2⟩ := hr.len
  have hlc := T.length_le_countL l
  have HALL := Lib.hid hall
  have HWF := Lib.hid hwf; have HQ := Lib.hid hq
  have HR := Lib.hid hr; clear hr hwf hnm hall
  go_enter Tryz.func61, Tryz.ntmps61
  go_upto_region 2 with (fail)
  generalize hW : ((w.alloc (Obj.cells #[Value.int IntKind.i64 k, Value.int IntKind.i64 n, Value.int IntKind.i64 x, Value.string s, Value.slice a l.length cap] 26)).alloc (Obj.cells zV 26)).alloc (Obj.cells #[Value.int IntKind.i64 k, Value.int IntKind.i64 n, Value.int IntKind.i64 x, Value.string s, Value.slice none 0 0] 26) = W0
  have q1 : Is W0 w.heap.size 26 #[Value.int IntKind.i64 k, Value.int IntKind.i64 n, Value.int IntKind.i64 x, Value.string s, Value.slice a l.length cap] := by subst hW; exact ((Is.new _ _ _).alloc _).alloc _
  have q2 : Is W0 (w.heap.size + 1) 26 zV := by subst hW; exact (Is.new2 _ _ _ _).alloc _
  have q3 : Is W0 (w.heap.size + 1 + 1) 26 #[Value.int IntKind.i64 k, Value.int IntKind.i64 n, Value.int IntKind.i64 x, Value.string s, Value.slice none 0 0] := by subst hW; exact Is.new3 _ _ _ _ _
  have hs0 : W0.heap.size = w.heap.size + 3 := by subst hW; simp
  have H0 := Lib.hid (show Below w.heap.size w W0 from by subst hW; exact below3 _ _ _ _)
  clear hW
  have HC := Lib.hid hct; clear hct
  obtain ⟨r0, r1, r2, r3, r4⟩ := q1.cells5
  have lg1 : w.heap.size < W0.heap.size := by omega
  have lg2 : w.heap.size + 1 < W0.heap.size := by omega
  by_cases k6 : k = 6
  ·subst k6
   obtain ⟨_, _, hx0, hdk⟩ := (own6 _ _ _ _).1 hq
   obtain ⟨m, rfl⟩ : ∃ m : Nat, x = -(m : Int) := ⟨(-x).toNat, by omega⟩
   have hm : m ≤ 40 := by rcases hdk with ⟨h, _⟩ | ⟨_, h, _⟩ <;> omega
   have hI : I64 n := HWF.out.2.1
   have HE := Lib.hid (show P = .mk 7 0 0 (decTx n m) [] from by rw [← HP.out, tg, if_pos rfl]; simp)
   clear HP
   have HSZ := Lib.hid (decTx_size n m)
   clear hdk hq hx0
   have HI := Lib.hid hI; clear hI
   go_wp2_with fail
   refine (spec_DecText n m _ HI.out hm).mono ?_
   rintro e w2 ⟨rfl, hb2⟩
   generalize decTx n m = tx at *
   go_wp2_with fail
   refine (spec_TextVal tx _).mono ?_
   rintro e w3 ⟨rfl, hb3⟩
   have p2 := (q2.below hb2 lg2).below hb3 (by have := hb2.size; omega)
   have f2 := fun i => p2.frozen i
   have l3 := p2.lt
   obtain ⟨o0, o1, o2, o3, o4⟩ := p2.cells5
   have HB3 := Lib.hid ((H0.out.trans (hb2.mono (by omega))).trans (hb3.mono (by have := hb2.size; omega)))
   clear hb2 hb3
   go_wp2_with fail
   obtain ⟨e0, e1, e2, e3, e4, hbel, hold, hsz⟩ := out5 p2.blk (.int .i64 7) (.int .i64 0) (.int .i64 0) (.string tx) (.slice none 0 0) w.heap.size (by omega)
   refine bodyPost_ret (v := .agg #[.int .i64 7, .int .i64 0, .int .i64 0, .string tx, .slice none 0 0]) (by simp [results, Tryz.results61, go_sem, e0, e1, e2, e3, e4]) rfl ?_
   rw [HE.out]
   exact ⟨none, 0, rfl, wfK ⟨by decide, by decide⟩ ⟨by decide, by decide⟩ ⟨by decide, by decide⟩ (by have := HSZ.out; omega), Own.ow.2 (Ow.nil _ _ _ _ _ (by simp [maxLen])), HB3.out.trans hbel⟩
  have b6 : (k == 6) = false := by simpa using k6
  have HE := Lib.hid (show P = srtT (.mk k n x s (outG k l l.length)) from by
   have hlen := outG_len k l l.length (Nat.le_refl _)
   rw [← HP.out, tg, if_neg k6, tgs_map]
   show _ = T.mk k n x s (if k = 10 then srtP (outG k l l.length) ((outG k l l.length).length / 2) else outG k l l.length)
   rw [hlen]
   unfold outG
   rw [List.take_of_length_le (by simp)]
   by_cases h : k = 10
   ·rw [if_pos h, if_pos h, if_pos h]
   ·rw [if_neg h, if_neg h, if_neg h])
  have HSZO := Lib.hid (outG_sz k l (by omega) HALL.out HDL.out)
  have HEV := Lib.hid (show k = 10 → (outG k l l.length).length % 2 = 0 from fun h => by
   rw [outG_len k l l.length (Nat.le_refl _)]; subst h; exact ((own10 _ _ _ _).1 HQ.out).2.2.2)
  have HCO0 := Lib.hid (outG_count k l l.length (Nat.le_refl _) HALL.out)
  clear HP
  go_wp2_with fail
  go_loopw [4, 5, 6, 7] (fun i _ _ _ wr => ∃ (j : Nat) (ar : Option Addr) (cr : Nat), j ≤ l.length ∧ i = .int .i64 j ∧ Is wr (w.heap.size + 1 + 1) 26 #[Value.int IntKind.i64 k, Value.int IntKind.i64 n, Value.int IntKind.i64 x, Value.string s, Value.slice ar j cr] ∧ App TV 5 26 True wr (w.heap.size + 3) wr.heap.size ar cr (outG k l j) ∧ Below (w.heap.size + 2) W0 wr) (fun i _ _ _ _ => l.length - (intOf i).toNat)
  case atStart => exact ⟨0, _, _, Nat.zero_le _, rfl, q3, by rw [show outG k l 0 = [] from by unfold outG; split <;> simp [fixN]]; exact App.nil _ _ _, Below.refl _ _⟩
  case round =>
   obtain ⟨j, ar, cr, hj, rfl, hout, happ, hb⟩ := hrel
   have hbs := hb.size
   have hlen := outG_len k l j hj
   have hlb1 : w.heap.size < wr.heap.size := by omega
   have hlb2 : w.heap.size + 1 + 1 < wr.heap.size := by omega
   by_cases hlt : j < l.length
   ·obtain ⟨r0, r1, r2, r3, r4⟩ := (q1.below hb (by omega)).cells5
    obtain ⟨b, o, a2, cap2, rfl, hbl, d0, d1, d2, d3, d4, hwf, hq⟩ := ((HR.out.below H0.out hB).below hb (by omega)).get j hlt
    have hcj := T.count_get l j hlt
    have hlb : b < wr.heap.size := by omega
    have HWJ := Lib.hid hwf; have HQJ := Lib.hid hq; clear hwf hq
    have HA := Lib.hid happ; have HOUT := Lib.hid hout; have HBR := Lib.hid hb; clear happ hout hb
    have hltz : (j : Int) < (l.length : Int) := by omega
    have HSU := Lib.hid (outG_succ k l j hlt)
    have HCO := Lib.hid (outG_count k l j hj HALL.out)
    have HIH := Lib.hid (IH.out l[j] (List.getElem_mem hlt) (some ⟨b, o, none⟩) cap)
    go_wp2_with fail
    refine (IH.out l[j] (List.getElem_mem hlt) a2 cap2 B _ HQJ.out HWJ.out (by omega) (by have := HC.out; omega) (HALL.out l[j] (List.getElem_mem hlt)) (HDL.out l[j] (List.getElem_mem hlt))).mono ?_
    rintro e w2 ⟨a3, cap3, rfl, hwfp, happ2, hb2⟩
    have HWP := Lib.hid hwfp; clear hwfp
    generalize tg l[j] = v at *
    obtain ⟨G, g1, g2, g3⟩ := happ2
    have hs2 := hb2.size
    have HB2 := Lib.hid hb2
    have HOUT2 := Lib.hid (HOUT.out.below hb2 (by omega))
    have HA2 := Lib.hid (HA.out.below TV.elem hb2 (Nat.le_refl _))
    clear hb2
    have hX2 : w.heap.size + 1 + 1 < w2.heap.size := by omega
    have q1' := (q1.below HBR.out (by omega)).below HB2.out (by omega)
    obtain ⟨r0, r1, r2, r3, r4⟩ := q1'.cells5
    have lg1 : w.heap.size < w2.heap.size := by omega
    have f3 := fun i => HOUT2.out.frozen i
    obtain ⟨o0, o1, o2, o3, o4⟩ := HOUT2.out.cells5
    clear d0 d1 d2 d3 d4 hlb1 hlb2 hlb
    have hj2 : j % 2 = 0 ∨ j % 2 = 1 := by omega
    by_cases hc : k = 10 ∧ j % 2 = 0
    case neg =>
     have HY := Lib.hid (nextG_no (l := l) (x := v) hc)
     have HV := Lib.hid (Is.new w2 (cV v a3 cap3) 26)
     have HOUT3 := Lib.hid (HOUT2.out.alloc (.cells (cV v a3 cap3) 26))
     have HA3 := Lib.hid (HA2.out.below TV.elem (below1 w2 (.cells (cV v a3 cap3) 26)) (by omega))
     have HB3 := Lib.hid (below1 w2 (.cells (cV v a3 cap3) 26))
     have HTL := Lib.hid (show TL (w2.alloc (.cells (cV v a3 cap3) 26)) a3 cap3 v.l G from g1.agree (fun f hf => HB3.out.block f (g3 f hf).2.2.lt))
     have HG3 := Lib.hid (show ∀ f ∈ G, wr.heap.size ≤ f ∧ f < w2.heap.size ∧ Unf (w2.alloc (.cells (cV v a3 cap3) 26)) f from fun f hf => ⟨(g3 f hf).1, (g3 f hf).2.1, (g3 f hf).2.2.alloc _⟩)
     have HND := Lib.hid g2
     have HB23 := Lib.hid (show Below wr.heap.size wr (w2.alloc (.cells (cV v a3 cap3) 26)) from HB2.out.trans (HB3.out.mono (by omega)))
     have hs3 : (w2.alloc (.cells (cV v a3 cap3) 26)).heap.size = w2.heap.size + 1 := by simp
     clear g1 g2 g3
     rcases (show ((k == 10) = true ∧ ((j : Int) % 2 == 0) = false) ∨ (k == 10) = false from by
      by_cases h10 : k = 10
      ·exact Or.inl ⟨by simpa using h10, by simp; omega⟩
      ·exact Or.inr (by simpa using h10)) with ⟨hg0, hg1⟩ | hg1
     all_goals
      clear hc
      have H4 := Lib.hid (below1 (w2.alloc (.cells (cV v a3 cap3) 26)) (.cells (cV v a3 cap3) 26))
      have HN := Lib.hid (HA3.out.below TV.elem H4.out (by have := HB23.out.size; omega))
      have HTV := Lib.hid (TV.box (w := (w2.alloc (.cells (cV v a3 cap3) 26))) 26 HTL.out HWP.out (fun f hf => by have := (HG3.out f hf).2.2.lt; omega))
      have HG := Lib.hid (show ∀ f ∈ G, wr.heap.size ≤ f ∧ f < ((w2.alloc (.cells (cV v a3 cap3) 26)).alloc (.cells (cV v a3 cap3) 26)).heap.size ∧ Unf ((w2.alloc (.cells (cV v a3 cap3) 26)).alloc (.cells (cV v a3 cap3) 26)) f from fun f hf => ⟨(HG3.out f hf).1, by have := (HG3.out f hf).2.2.lt; simp; omega, (HG3.out f hf).2.2.alloc _⟩)
      have hout3 := Lib.hid (HOUT3.out.alloc (.cells (cV v a3 cap3) 26))
      have hsW : wr.heap.size ≤ (w2.alloc (.cells (cV v a3 cap3) 26)).heap.size := HB23.out.size
      go_wp2_with (at_builtin; refine wpList_app1 TV.elem rfl _ _ 24 rfl (.agg zV) 64 Tryz.underlying24 info_Val rfl (w.heap.size + 3) wr.heap.size ar cr (outG k l j) (by first | rfl | (rw [hlen]; rfl)) HN.out (by simp; omega) (by omega) (w2.heap.size + 1) 0 1 v G (by first | rfl | simp) (by first | exact HTV.out | (have := HTV.out; simpa using this)) HND.out HG.out (by rw [hlen]; unfold maxLen; omega) (by rw [hlen]; omega) ?_; intro ar2 cr2 w6 happ6 hb6 _; have hout4 := hout3.out.below hb6 (by omega); have ff4 := (fun i => hout4.frozen i); obtain ⟨p0, p1, p2, p3, p4⟩ := hout4.cells5)
      go_roundw
      case rel =>
       have hlt3 := hout4.lt
       have hll : (outG k l j ++ [v]).length = j + 1 := by rw [List.length_append, hlen]; rfl
       refine ⟨j + 1, ar2, cr2, by omega, by go_num, ?_, ?_, ?_⟩
       ·have hh := hout4.set 4 (.slice ar2 (j + 1) cr2)
        first | exact hh | (rw [hll]; exact hh) | (simpa [hll] using hh)
       ·rw [HSU.out, HY.out, size_set]
        exact happ6.agree TV.elem (fun f hf _ => heap_miss _ _ _ _ (by omega) _)
       ·exact (HBR.out.trans ((HB23.out.trans (H4.out.mono (by omega))).mono (by omega))).trans ((hb6.mono (by omega)).trans (Below.setCell (Below.refl _ _) (p := ⟨w.heap.size + 1 + 1, 4, none⟩) (by simp) _))
      case measure => simp [intOf]; omega
    case pos =>
     have hg0 : (k == 10) = true := by simpa using hc.1
     have hg1 : ((j : Int) % 2 == 0) = true := by simp; omega
     have HV := Lib.hid (Is.new w2 (cV v a3 cap3) 26)
     have HOUT3 := Lib.hid (HOUT2.out.alloc (.cells (cV v a3 cap3) 26))
     have HA3 := Lib.hid (HA2.out.below TV.elem (below1 w2 (.cells (cV v a3 cap3) 26)) (by omega))
     have HB3 := Lib.hid (below1 w2 (.cells (cV v a3 cap3) 26))
     have HTL := Lib.hid (show TL (w2.alloc (.cells (cV v a3 cap3) 26)) a3 cap3 v.l G from g1.agree (fun f hf => HB3.out.block f (g3 f hf).2.2.lt))
     have HG3 := Lib.hid (show ∀ f ∈ G, wr.heap.size ≤ f ∧ f < w2.heap.size ∧ Unf (w2.alloc (.cells (cV v a3 cap3) 26)) f from fun f hf => ⟨(g3 f hf).1, (g3 f hf).2.1, (g3 f hf).2.2.alloc _⟩)
     have HND := Lib.hid g2
     have HB23 := Lib.hid (show Below wr.heap.size wr (w2.alloc (.cells (cV v a3 cap3) 26)) from HB2.out.trans (HB3.out.mono (by omega)))
     have hs3 : (w2.alloc (.cells (cV v a3 cap3) 26)).heap.size = w2.heap.size + 1 := by simp
     clear g1 g2 g3
     obtain ⟨bb, hbb⟩ : ∃ bb, hasP (outG k l j) v = bb := ⟨_, rfl⟩
     have HYY := Lib.hid (nextG_yes hc hbb)
     have HLK := Lib.hid (show Calls Tryz.prog 112 #[.agg #[.int .i64 10, .int .i64 0, .int .i64 0, .string ⟨#[]⟩, .slice ar j cr], .agg (cV v a3 cap3)] (w2.alloc (.cells (cV v a3 cap3) 26)) fun e w' => ∃ (t : T) (a' : Option Addr) (cap' : Nat), e = .returned (.tuple #[.agg (cV t a' cap'), .bool bb]) ∧ Below (w2.alloc (.cells (cV v a3 cap3) 26)).heap.size (w2.alloc (.cells (cV v a3 cap3) 26)) w' from by
      obtain ⟨F, f1, _, f3⟩ := Own.ow.2 HA3.out.own
      have := spec_Lookup (outG k l j) v 0 0 ⟨#[]⟩ ar a3 cr cap3 (w2.alloc (.cells (cV v a3 cap3) 26)).heap.size (w2.alloc (.cells (cV v a3 cap3) 26)) ⟨F, f1, fun f hf => (f3 f hf).2.2.lt⟩ ⟨G, HTL.out, fun f hf => (HG3.out f hf).2.2.lt⟩ (Nat.le_refl _) (by rw [hlen]; exact hc.2) (by have := HCO.out; have := HC.out; omega)
      rw [hlen, hbb] at this; exact this)
     clear hbb hc
     go_wp2_with fail
     refine HLK.out.mono ?_
     rintro e w4 ⟨tq, aq, cq, rfl, hb4⟩
     have hs4 := hb4.size
     have HB4 := Lib.hid hb4
     have HV4 := Lib.hid (HV.out.below hb4 (by omega))
     have HOUT4 := Lib.hid (HOUT3.out.below hb4 HOUT3.out.lt)
     have HA4 := Lib.hid (HA3.out.below TV.elem hb4 (by omega))
     have HTL4 := Lib.hid (show TL w4 a3 cap3 v.l G from HTL.out.agree (fun f hf => hb4.block f (HG3.out f hf).2.2.lt))
     have HG4 := Lib.hid (show ∀ f ∈ G, wr.heap.size ≤ f ∧ f < w2.heap.size ∧ Unf w4 f from fun f hf => ⟨(HG3.out f hf).1, (HG3.out f hf).2.1, (HG3.out f hf).2.2.agree (hb4.block f (HG3.out f hf).2.2.lt)⟩)
     have HB24 := Lib.hid (show Below wr.heap.size wr w4 from HB23.out.trans (hb4.mono (by omega)))
     clear hb4 HLK r0 r1 r2 r3 r4 o0 o1 o2 o3 o4 f3 q1' HTL HG3 HA3 HOUT3 HV HB3
     have HB5 := Lib.hid (below1 w4 (.cells (cV tq aq cq) 26))
     have hs5 : (w4.alloc (.cells (cV tq aq cq) 26)).heap.size = w4.heap.size + 1 := by simp
     cases bb with
     | false =>
      have HY := Lib.hid (show nextG k l j v = v from HYY.out)
      have HTL5 := Lib.hid (show TL (w4.alloc (.cells (cV tq aq cq) 26)) a3 cap3 v.l G from HTL4.out.agree (fun f hf => HB5.out.block f (HG4.out f hf).2.2.lt))
      have HG5 := Lib.hid (show ∀ f ∈ G, wr.heap.size ≤ f ∧ f < w2.heap.size ∧ Unf (w4.alloc (.cells (cV tq aq cq) 26)) f from fun f hf => ⟨(HG4.out f hf).1, (HG4.out f hf).2.1, (HG4.out f hf).2.2.alloc _⟩)
      have HOUT5 := Lib.hid (HOUT4.out.alloc (.cells (cV tq aq cq) 26))
      have HA5 := Lib.hid (HA4.out.below TV.elem HB5.out (by omega))
      have HB25 := Lib.hid (show Below wr.heap.size wr (w4.alloc (.cells (cV tq aq cq) 26)) from HB24.out.trans (HB5.out.mono (by omega)))
      have f3 := fun i => HOUT4.out.frozen i
      obtain ⟨o0, o1, o2, o3, o4⟩ := HOUT4.out.cells5
      obtain ⟨y0, y1, y2, y3, y4⟩ := HV4.out.cells5
      have hX4 : w.heap.size + 1 + 1 < w4.heap.size := HOUT4.out.lt
      have hg4 : w2.heap.size < w4.heap.size := HV4.out.lt
      have H4 := Lib.hid (below1 (w4.alloc (.cells (cV tq aq cq) 26)) (.cells (cV v a3 cap3) 26))
      have HN := Lib.hid (HA5.out.below TV.elem H4.out (by have := HB25.out.size; omega))
      have HTV := Lib.hid (TV.box (w := (w4.alloc (.cells (cV tq aq cq) 26))) 26 HTL5.out HWP.out (fun f hf => by have := (HG5.out f hf).2.2.lt; omega))
      have HG := Lib.hid (show ∀ f ∈ G, wr.heap.size ≤ f ∧ f < ((w4.alloc (.cells (cV tq aq cq) 26)).alloc (.cells (cV v a3 cap3) 26)).heap.size ∧ Unf ((w4.alloc (.cells (cV tq aq cq) 26)).alloc (.cells (cV v a3 cap3) 26)) f from fun f hf => ⟨(HG5.out f hf).1, by have := (HG5.out f hf).2.2.lt; simp; omega, (HG5.out f hf).2.2.alloc _⟩)
      have hout3 := Lib.hid (HOUT5.out.alloc (.cells (cV v a3 cap3) 26))
      have hsW : wr.heap.size ≤ (w4.alloc (.cells (cV tq aq cq) 26)).heap.size := HB25.out.size
      go_wp2_with (at_builtin; refine wpList_app1 TV.elem rfl _ _ 24 rfl (.agg zV) 64 Tryz.underlying24 info_Val rfl (w.heap.size + 3) wr.heap.size ar cr (outG k l j) (by first | rfl | (rw [hlen]; rfl)) HN.out (by simp; omega) (by omega) (w4.heap.size + 1) 0 1 v G (by first | rfl | simp) (by first | exact HTV.out | (have := HTV.out; simpa using this)) HND.out HG.out (by rw [hlen]; unfold maxLen; omega) (by rw [hlen]; omega) ?_; intro ar2 cr2 w6 happ6 hb6 _; have hout4 := hout3.out.below hb6 (by omega); have ff4 := (fun i => hout4.frozen i); obtain ⟨p0, p1, p2, p3, p4⟩ := hout4.cells5)
      go_roundw
      case rel =>
       have hlt3 := hout4.lt
       have hll : (outG k l j ++ [v]).length = j + 1 := by rw [List.length_append, hlen]; rfl
       refine ⟨j + 1, ar2, cr2, by omega, by go_num, ?_, ?_, ?_⟩
       ·have hh := hout4.set 4 (.slice ar2 (j + 1) cr2)
        first | exact hh | (rw [hll]; exact hh) | (simpa [hll] using hh)
       ·rw [HSU.out, HY.out, size_set]
        exact happ6.agree TV.elem (fun f hf _ => heap_miss _ _ _ _ (by omega) _)
       ·exact (HBR.out.trans ((HB25.out.trans (H4.out.mono (by omega))).mono (by omega))).trans ((hb6.mono (by omega)).trans (Below.setCell (Below.refl _ _) (p := ⟨w.heap.size + 1 + 1, 4, none⟩) (by simp) _))
      case measure => simp [intOf]; omega
     | true =>
      have HY := Lib.hid (show nextG k l j v = kName j from HYY.out)
      have hX4 : w.heap.size + 1 + 1 < w4.heap.size := HOUT4.out.lt
      have hg4 : w2.heap.size < w4.heap.size := HV4.out.lt
      have hX5 : w.heap.size + 1 + 1 ≠ w2.heap.size := by omega
      have hsn := numT_size (n := (j : Int)) ⟨by omega, by omega⟩
      go_wp2_with fail
      refine (spec_NumText (j : Int) _ ⟨by omega, by omega⟩).mono ?_
      rintro e w6 ⟨rfl, hb6⟩
      have HKN := Lib.hid (show kName j = .mk 7 0 0 (⟨#[107]⟩ ++ numT j) [] from rfl)
      generalize numT (j : Int) = nt at *
      go_wp2_with fail
      refine (spec_TextVal _ _).mono ?_
      rintro e w7 ⟨rfl, hb7⟩
      have hks : ((⟨#[107]⟩ : ByteArray) ++ nt).size ≤ 22 := by rw [ByteArray.size_append]; have h1 : (⟨#[107]⟩ : ByteArray).size = 1 := rfl; omega
      obtain ⟨kt, hkt⟩ : ∃ kt, (⟨#[107]⟩ : ByteArray) ++ nt = kt := ⟨_, rfl⟩
      rw [hkt] at hks HKN ⊢
      clear hkt hsn
      have hs6 : w4.heap.size + 1 ≤ w6.heap.size := by have := hb6.size; simpa using this
      have hs7 := hb7.size
      have hb6' : Below (w4.heap.size + 1) (w4.alloc (.cells (cV tq aq cq) 26)) w6 := by have := hb6; simpa using this
      have HV5 := HV4.out.alloc (.cells (cV tq aq cq) 26)
      have HV6 := HV5.below hb6' (by omega)
      have HV7 := Lib.hid (HV6.below hb7 HV6.lt)
      have HOUT5 := HOUT4.out.alloc (.cells (cV tq aq cq) 26)
      have HOUT6 := HOUT5.below hb6' (by omega)
      have HOUT7 := Lib.hid (HOUT6.below hb7 HOUT6.lt)
      have HA7 := Lib.hid (((HA4.out.below TV.elem HB5.out (by omega)).below TV.elem hb6' (by omega)).below TV.elem hb7 (by omega))
      have HB27 := Lib.hid (show Below wr.heap.size wr w7 from ((HB24.out.trans (HB5.out.mono (by omega))).trans (hb6'.mono (by omega))).trans (hb7.mono (by omega)))
      clear HV5 HV6 HOUT5 HOUT6 hb6 hb6' hb7 HV4 HOUT4 HA4 HTL4 HG4
      have fg := fun i => HV7.out.frozen i
      obtain ⟨y0, y1, y2, y3, y4⟩ := HV7.out.cells5
      have hg7 : w2.heap.size < w7.heap.size := HV7.out.lt
      go_upto_region 12 with (fail)
      clear y0 y1 y2 y3 y4 fg
      have HV8 := Lib.hid (show Is (((((w7.setCell ⟨w2.heap.size, 0, none⟩ (.int .i64 7)).setCell ⟨w2.heap.size, 1, none⟩ (.int .i64 0)).setCell ⟨w2.heap.size, 2, none⟩ (.int .i64 0)).setCell ⟨w2.heap.size, 3, none⟩ (.string kt)).setCell ⟨w2.heap.size, 4, none⟩ (.slice none 0 0)) w2.heap.size 26 (cV (T.mk 7 0 0 kt []) none 0) from ((((HV7.out.set 0 (.int .i64 7)).set 1 (.int .i64 0)).set 2 (.int .i64 0)).set 3 (.string kt)).set 4 (.slice none 0 0))
      obtain ⟨_, _, _, _, _, hbel, hold, hsz⟩ := out5 HV7.out.blk (.int .i64 7) (.int .i64 0) (.int .i64 0) (.string kt) (.slice none 0 0) wr.heap.size (by omega)
      have HOUT8 := Lib.hid (HOUT7.out.agree (hold (w.heap.size + 1 + 1) hX5))
      have HA8 := Lib.hid (HA7.out.agree TV.elem (fun f h1 h2 => hold f (by omega)))
      have HB28 := Lib.hid (HB27.out.trans hbel)
      have HWY := Lib.hid (show Wf (T.mk 7 0 0 kt []) from wfK ⟨by decide, by decide⟩ ⟨by decide, by decide⟩ ⟨by decide, by decide⟩ (by omega))
      have HYK := Lib.hid (HY.out.trans HKN.out)
      clear hbel hold HV7 HOUT7 HA7 HB27
      generalize (((((w7.setCell ⟨w2.heap.size, 0, none⟩ (.int .i64 7)).setCell ⟨w2.heap.size, 1, none⟩ (.int .i64 0)).setCell ⟨w2.heap.size, 2, none⟩ (.int .i64 0)).setCell ⟨w2.heap.size, 3, none⟩ (.string kt)).setCell ⟨w2.heap.size, 4, none⟩ (.slice none 0 0)) = w8 at *
      have hs8 : w7.heap.size = w8.heap.size := hsz.symm
      have HTLk := Lib.hid (show TL w8 none 0 (T.mk 7 0 0 kt []).l [] from ⟨by simp [T.l], by simp [maxLen], fun _ => rfl, fun h => absurd rfl h⟩)
      have HNDk := Lib.hid (show ([] : List Nat).Nodup from by simp)
      have HGk := Lib.hid (show ∀ f ∈ ([] : List Nat), wr.heap.size ≤ f ∧ f < w2.heap.size ∧ Unf w8 f from by simp)
      obtain ⟨y0, y1, y2, y3, y4⟩ := HV8.out.cells5
      obtain ⟨o0, o1, o2, o3, o4⟩ := HOUT8.out.cells5
      have f3 := fun i => HOUT8.out.frozen i
      have hX8 : w.heap.size + 1 + 1 < w8.heap.size := HOUT8.out.lt
      have hg8 : w2.heap.size < w8.heap.size := HV8.out.lt
      clear hsz hs8 hs5
      have H4 := Lib.hid (below1 w8 (.cells (cV (T.mk 7 0 0 kt []) none 0) 26))
      have HN := Lib.hid (HA8.out.below TV.elem H4.out (by have := HB28.out.size; omega))
      have HTV := Lib.hid (TV.box (w := w8) 26 HTLk.out HWY.out (fun f hf => by have := (HGk.out f hf).2.2.lt; omega))
      have HG := Lib.hid (show ∀ f ∈ ([] : List Nat), wr.heap.size ≤ f ∧ f < (w8.alloc (.cells (cV (T.mk 7 0 0 kt []) none 0) 26)).heap.size ∧ Unf (w8.alloc (.cells (cV (T.mk 7 0 0 kt []) none 0) 26)) f from fun f hf => ⟨(HGk.out f hf).1, by have := (HGk.out f hf).2.2.lt; simp; omega, (HGk.out f hf).2.2.alloc _⟩)
      have hout3 := Lib.hid (HOUT8.out.alloc (.cells (cV (T.mk 7 0 0 kt []) none 0) 26))
      have hsW : wr.heap.size ≤ w8.heap.size := HB28.out.size
      go_wp2_with (at_builtin; refine wpList_app1 TV.elem rfl _ _ 24 rfl (.agg zV) 64 Tryz.underlying24 info_Val rfl (w.heap.size + 3) wr.heap.size ar cr (outG k l j) (by first | rfl | (rw [hlen]; rfl)) HN.out (by simp; omega) (by omega) w8.heap.size 0 1 (T.mk 7 0 0 kt []) ([] : List Nat) (by first | rfl | simp) (by first | exact HTV.out | (have := HTV.out; simpa using this)) HNDk.out HG.out (by rw [hlen]; unfold maxLen; omega) (by rw [hlen]; omega) ?_; intro ar2 cr2 w6 happ6 hb6 _; have hout4 := hout3.out.below hb6 (by omega); have ff4 := (fun i => hout4.frozen i); obtain ⟨p0, p1, p2, p3, p4⟩ := hout4.cells5)
      go_roundw
      case rel =>
       have hlt3 := hout4.lt
       have hll : (outG k l j ++ [(T.mk 7 0 0 kt [])]).length = j + 1 := by rw [List.length_append, hlen]; rfl
       refine ⟨j + 1, ar2, cr2, by omega, by go_num, ?_, ?_, ?_⟩
       ·have hh := hout4.set 4 (.slice ar2 (j + 1) cr2)
        first | exact hh | (rw [hll]; exact hh) | (simpa [hll] using hh)
       ·rw [HSU.out, HYK.out, size_set]
        exact happ6.agree TV.elem (fun f hf _ => heap_miss _ _ _ _ (by omega) _)
       ·exact (HBR.out.trans ((HB28.out.trans (H4.out.mono (by omega))).mono (by omega))).trans ((hb6.mono (by omega)).trans (Below.setCell (Below.refl _ _) (p := ⟨w.heap.size + 1 + 1, 4, none⟩) (by simp) _))
      case measure => simp [intOf]; omega
   ·obtain rfl : j = l.length := by omega
    have hltz : ¬ (l.length : Int) < (l.length : Int) := by omega
    have p1 := q1.below hb (by omega)
    have p2 := q2.below hb (by omega)
    have f2 := fun i => p2.frozen i
    obtain ⟨r0, r1, r2, r3, r4⟩ := p1.cells5
    obtain ⟨o0, o1, o2, o3, o4⟩ := p2.cells5
    obtain ⟨t0, t1, t2, t3, t4⟩ := hout.cells5
    have hlb3 : w.heap.size + 1 < wr.heap.size := by omega
    have HST := Lib.hid (show Calls Tryz.prog 114 #[.agg #[.int .i64 k, .int .i64 n, .int .i64 x, .string s, .slice ar l.length cr]] wr fun e w' => ∃ a' cap', e = .returned (.agg (cV P a' cap')) ∧ Own w' wr.heap.size w'.heap.size a' cap' P.l ∧ Below wr.heap.size wr w' from by
     have := spec_SortTight k n x s (outG k l l.length) ar cr wr.heap.size wr (Own.ow.2 happ.own).read HWF.out (Nat.le_refl _) (by simp only [T.count]; have := HCO0.out; have := HC.out; omega) HSZO.out (by rw [hlen]; omega) HEV.out
     rw [hlen, ← HE.out] at this
     exact this)
    have HWP := Lib.hid (show Wf P from by rw [HE.out]; exact HWF.out)
    clear happ hlen hlt hj HSZO HEV HCO0
    go_wp2_with fail
    refine HST.out.mono ?_
    rintro e w3 ⟨a3, cap3, rfl, hown, hb3⟩
    have p3 := p2.below hb3 hlb3
    have f3 := fun i => p3.frozen i
    have lg3 := p3.lt
    obtain ⟨o0, o1, o2, o3, o4⟩ := p3.cells5
    have hs3 := hb3.size
    have HB3 := Lib.hid ((H0.out.trans (hb.mono (by omega))).trans (hb3.mono (by omega)))
    clear hb3
    go_wp2_with fail
    obtain ⟨e0, e1, e2, e3, e4, hbel, hold, hsz⟩ := out5 p3.blk (.int .i64 P.k) (.int .i64 P.n) (.int .i64 P.x) (.string P.s) (.slice a3 P.l.length cap3) w.heap.size (by omega)
    refine bodyPost_ret (v := .agg (cV P a3 cap3)) (by simp [results, Tryz.results61, go_sem, e0, e1, e2, e3, e4]) rfl ⟨a3, cap3, rfl, HWP.out, ?_, HB3.out.trans hbel⟩
    rw [hsz]
    exact (hown.agree (fun f h1 h2 => hold f (by omega))).more (by omega) (Nat.le_refl _)
theorem spec_tighted (A : Nat) (t : T) (a : Option Addr) (cap lo : Nat) (w0 w : World) (hr : Rn TV 5 w lo a cap t.l) (hwf : Wf t) (hsz : T.sz t ≤ 1920) (hd : Dr 4 t) (hc : Cur w A) (hk : Kp A w0 w) (hlA : A < w0.heap.size) :
  Calls Tryz.prog 61 #[.agg (cV t a cap)] w fun e w' => ∃ a' cap', e = .returned (.agg (cV (tg t) a' cap')) ∧ Wf (tg t) ∧ AllT tqQ (tg t) ∧ T.depth (tg t) ≤ 4 ∧ T.sz (tg t) ≤ 60000 ∧ Rn TV 5 w' w.heap.size a' cap' (tg t).l ∧ Cur w' A ∧ Kp A w0 w' ∧ Below w.heap.size w w' := by
 have hs := hk.size
 refine (spec_l13Tighter t a cap w.heap.size w hr.r hwf (Nat.le_refl _) (by have := T.countL_le_szL t; omega) hd.1 hd.2).mono ?_
 rintro e w' ⟨a', cap', rfl, hw', happ, hb⟩
 obtain ⟨h1, h2⟩ := tg_ok t hd.1
 have h4 : T.depth (tg t) ≤ 4 := Nat.le_trans h2 hd.2
 have h5 := tq_sz (tg t) 4 h1 h4
 have e5 : szB 4 = 53354 := by decide
 exact ⟨a', cap', rfl, hw', h1, h4, by omega, (let ⟨F, q1, _, q3⟩ := Own.ow.1 happ; ⟨F, q1, fun f hf => ⟨(q3 f hf).1, (q3 f hf).2.1⟩⟩), hc.below hb hc.lt, Kp.grow hk (hb.mono hs) (Nat.le_of_lt hlA), hb⟩
set_option maxHeartbeats 4000000 in
theorem spec_DrawTight (a : Option Addr) (cap B : Nat) (l : List Int) (w : World) (hr : Rd EByte 1 w B a cap l) (hB : B ≤ w.heap.size) (hl : l.length ≤ 1048576) :
  Calls Tryz.prog 10 #[.slice a l.length cap] w fun e w' => DrawnT (fun t => AllT tqQ t ∧ T.depth t ≤ 4) w e w' := by
 have HR0 := Lib.hid (hr.below EByte.loc (below1 w (.cells zV 26)) hB)
 have HI0 := Lib.hid (Is.new w zV 26)
 clear hr
 go_enter Tryz.func10, Tryz.ntmps10
 go_wp2_with fail
 refine (spec_l1New a cap B l _ HR0.out (by simp; omega) hl).mono ?_
 rintro e w1 ⟨A, rfl, hA, hc1, hb1⟩
 rw [size_alloc] at hA hb1
 have HC1 := Lib.hid hc1; have HI1 := Lib.hid (HI0.out.below hb1 (by omega)); have HB1 := Lib.hid ((below1 w (.cells zV 26)).trans (hb1.mono (by omega)))
 clear hc1 hb1 HI0
 have hs1 : w.heap.size ≤ w1.heap.size := HB1.out.size
 have hi1 := HI1.out.lt
 go_wp2_with fail
 refine (spec_l6Val A w1 HC1.out).mono ?_
 rintro e w2 ⟨t0, a2, c2, rfl, htw0, hts0, htz0, htd0, happ, hc2, hk2⟩
 have HC2 := Lib.hid hc2; have HI2 := Lib.hid (hk2.is HI1.out (by omega)); have HK2 := Lib.hid hk2; have HA2 := Lib.hid (happ.rn (Nat.le_refl _)); have hs2 := hk2.size; have HTD := Lib.hid htd0; clear hc2 hk2 happ htd0
 go_wp2_with fail
 refine (spec_tighted A t0 a2 c2 _ w1 w2 HA2.out htw0 htz0 HTD.out HC2.out HK2.out (by have := HC1.out.lt; omega)).mono ?_
 rintro e w3 ⟨a3, c3, rfl, htw, hpk, hpd, htz, hrn, hc3, hk13, hb3⟩
 have HPK := Lib.hid hpk; have HPD := Lib.hid hpd; clear hpk hpd
 generalize tg t0 = t at *
 have hk3 : Kp A w2 w3 := Kp.of_below hb3 (Nat.le_refl _) (Nat.le_of_lt HC2.out.lt)
 have HB2 := Lib.hid (HB1.out.trans (HK2.out.1.mono (by omega))); clear HB1 hb3 hk13
 have HB1 := HB2; clear HB2
 have HI3 := Lib.hid (hk3.is HI2.out (by omega)); have HK3 := Lib.hid hk3; have HR3 := Lib.hid hrn; have HC3 := Lib.hid hc3; clear hk3 hrn hc3
 have ff := fun i => HI3.out.frozen i; have lg := HI3.out.lt; obtain ⟨z0, z1, z2, z3, z4⟩ := HI3.out.cells5
 have hs3 := Kp.size HK3.out
 go_wp2_with fail
 obtain ⟨e0, e1, e2, e3, e4, hbel, hof, hsf⟩ := out5 HI3.out.blk (.int .i64 t.k) (.int .i64 t.n) (.int .i64 t.x) (.string t.s) (.slice a3 t.l.length c3) w.heap.size (Nat.le_refl _)
 refine bodyPost_ret (v := .agg (cV t a3 c3)) (by simp [results, Tryz.results10, go_sem, e0, e1, e2, e3, e4]) rfl ⟨t, a3, c3, rfl, htw, htz, ⟨HPK.out, HPD.out⟩, ?_, (HB1.out.trans (HK3.out.1.mono (by omega))).trans hbel⟩
 exact (HR3.out.agree TV.elem.loc (fun f h1 _ => hof f (by omega)) (by rw [hsf]; omega)).r
end Go.Proofs.YtggdenkmohnijaaGreatDoor
