/- Texts of this proof, merged: OpU. No condition beyond what each theorem states. -/
import Derived.Test.YtggdenkmohnijaaGreatDoorZO30
set_option linter.unusedSimpArgs false
set_option linter.unnecessarySimpa false
namespace Go.Proofs.YtggdenkmohnijaaGreatDoor
open Go.ChangeShapes Go.WideShapes Go.ChangeAt Go.RowKit Go.Joins
set_option linter.unusedVariables false
set_option maxRecDepth 100000
def PO (t : T) : Prop := ∀ (a : Option Addr) (cap B : Nat) (w : World), R w B a cap t.l → Wf t → T.sz t ≤ 1048576 → B ≤ w.heap.size →
      Calls Tryz.prog 39 #[.agg (cV t a cap)] w fun e w' => ∃ a' cap', e = .returned (.slice a' (packG true t).length cap') ∧ AppL EByte 1 5 w' w.heap.size a' cap' (packG true t) [] ∧ Below w.heap.size w w'
theorem packG_plain (o : Bool) (k n x : Int) (s : ByteArray) (l : List T) (ho : o = true ∨ k ≠ 3) (hk : ¬ (k = 7 ∨ k = 8 ∨ k = 9 ∨ k = 10 ∨ k = 11)) : packG o (.mk k n x s l) = packT (.mk k n x s l) := by
 have h7 : ¬ k = 7 := by omega
 have h8 : ¬ k = 8 := by omega
 have h9 : ¬ k = 9 := by omega
 have h10 : ¬ k = 10 := by omega
 have h11 : ¬ k = 11 := by omega
 rw [packG, packT]
 rcases ho with rfl | h3
 ·simp only [nuG, if_true, h7, h8, h9, h10, h11, if_false]
 ·simp only [h3, h7, h8, h9, h10, h11, if_false]
set_option maxHeartbeats 4000000 in
theorem po0 (k n x : Int) (s : ByteArray) (l : List T) (hk : ¬ (k = 7 ∨ k = 8 ∨ k = 9 ∨ k = 10 ∨ k = 11)) : PO (.mk k n x s l) := by
 intro a cap B w hr hwf hsz hB
 have HW := Lib.hid hwf
 obtain ⟨hwk, hwn, hwx, hws⟩ := hwf
 simp only [cV, T.k, T.n, T.x, T.s, T.l] at hr hwk hwn hwx hws ⊢
 have hszl : T.szL l ≤ 1048576 := by simp only [T.sz] at hsz; omega
 have hss : s.size ≤ 1048576 := by simp only [T.sz] at hsz; omega
 obtain ⟨hl1, hl2⟩ := hr.len
 have hl0 := T.length_le_szL l
 have HR := Lib.hid hr
 have HS := Lib.hid hsz
 have HE := Lib.hid (packG_plain true k n x s l (Or.inl rfl) hk)
 have q0 := Is.new w (cV (.mk k n x s l) a cap) 26
 simp only [cV, T.k, T.n, T.x, T.s, T.l] at q0
 obtain ⟨c0, c1, c2', c3, c4⟩ := q0.cells5
 have lg := q0.lt
 have H0 := Lib.hid (below1 w (.cells #[Value.int IntKind.i64 k, Value.int IntKind.i64 n, Value.int IntKind.i64 x, Value.string s, Value.slice a l.length cap] 26))
 have g7 : ¬ k = 7 := by omega
 have g8 : ¬ k = 8 := by omega
 have g9 : ¬ k = 9 := by omega
 have g10 : ¬ k = 10 := by omega
 have g11 : ¬ k = 11 := by omega
 clear hk hr hsz hwk hwn hwx hws q0
 go_enter Tryz.func39, Tryz.ntmps39
 go_wp2_with fail
 refine (spec_PackTight (.mk k n x s l) a cap B _ (HR.out.below (H0.out.mono hB) (Nat.le_refl _)) HW.out HS.out (by simp; omega)).mono ?_
 rintro e w2 ⟨a2, c2, rfl, happ, hb⟩
 have HA := Lib.hid (happ.less (show w.heap.size ≤ _ by simp))
 have HB := Lib.hid (H0.out.trans (hb.mono (by simp)))
 clear happ hb
 go_wp2_with fail
 go_ret
 exact ⟨a2, c2, ret_sl (by rw [HE.out]), by rw [HE.out]; exact HA.out, HB.out⟩
set_option maxHeartbeats 8000000 in
theorem po9 (n x : Int) (s : ByteArray) (l : List T) (IH : ∀ t ∈ l, PO t) : PO (.mk 9 n x s l) := by
 intro a cap B w hr hwf hsz hB
 have HW := Lib.hid hwf
 obtain ⟨hwk, hwn, hwx, hws⟩ := hwf
 simp only [cV, T.k, T.n, T.x, T.s, T.l] at hr hwk hwn hwx hws ⊢
 have hszl : T.szL l ≤ 1048576 := by simp only [T.sz] at hsz; omega
 have hss : s.size ≤ 1048576 := by simp only [T.sz] at hsz; omega
 obtain ⟨hl1, hl2⟩ := hr.len
 have hl0 := T.length_le_szL l
 have HR := Lib.hid hr
 have HI := Lib.hid IH
 have HZ := Lib.hid hszl
 obtain ⟨L, hL⟩ : ∃ L, headL 4 0 (-1) = L := ⟨_, rfl⟩
 have hLl : L.length ≤ 9 := by rw [← hL]; exact headL_len _ _ _
 have HE := Lib.hid (show packG true (.mk 9 n x s l) = (L ++ packGs true l) ++ [255] from by rw [packG, if_neg (by omega), if_neg (by omega), if_neg (by omega), if_neg (by omega), if_neg (by omega), if_neg (by omega), if_neg (by omega), if_pos rfl, elG, if_pos rfl, hL, List.append_assoc])
 have HL := Lib.hid hL
 clear hr IH hwk hwn hwx hws hsz hL
 go_enter Tryz.func39, Tryz.ntmps39
 go_wp2_with fail
 generalize hW : (w.alloc (Obj.cells _ 26)).alloc (Obj.cells #[] 5) = W0
 have q1 : Is W0 w.heap.size 26 (cV (.mk 9 n x s l) a cap) := by subst hW; exact (Is.new _ _ _).alloc _
 have H0 := Lib.hid (show Below w.heap.size w W0 from by subst hW; exact below2 _ _ _)
 have hs0 : W0.heap.size = w.heap.size + 2 := by subst hW; simp
 clear hW
 have Q := Lib.hid q1
 have hl3 : w.heap.size < W0.heap.size := by omega
 refine (spec_PutHead0 4 0 (-1) _ _ ⟨by decide, by decide⟩).mono ?_
 rw [HL.out]
 rintro e w2 ⟨a2, c2, rfl, happ, hb⟩
 have HA := Lib.hid happ; have HB := Lib.hid hb
 have q2 := q1.below hb hl3
 simp only [cV, T.k, T.n, T.x, T.s, T.l] at q2
 have lg2 := q2.lt
 obtain ⟨r0, r1, r2, r3, r4⟩ := q2.cells5
 clear happ hb q1 q2
 rcases Nat.eq_zero_or_pos s.size with hz0 | hz0
 all_goals
  go_wp2_with fail
  go_loopw [6, 7] (fun q i wr => ∃ (j : Nat) (a' : Option Addr) (c' : Nat), j ≤ l.length ∧ i = .int .i64 j ∧ q = .slice a' (L ++ packGs true (l.take j)).length c' ∧ Hid (AppL EByte 1 5 wr W0.heap.size a' c' (L ++ packGs true (l.take j)) []) ∧ Hid (Below W0.heap.size W0 wr)) (fun _ i _ => l.length - (intOf i).toNat)
  case atStart => exact ⟨0, a2, c2, Nat.zero_le _, rfl, by simp [packGs], by simpa [packGs] using HA, HB⟩
  case round =>
   clear HA HB r0 r1 r2 r3 r4 lg2
   obtain ⟨j, a', c', hj, rfl, rfl, HAj, HBj⟩ := hrel
   have hbs := HBj.out.size
   have qr := Q.out.below HBj.out hl3
   simp only [cV, T.k, T.n, T.x, T.s, T.l] at qr
   have lgr := qr.lt
   obtain ⟨r0, r1, r2, r3, r4⟩ := qr.cells5
   clear qr
   by_cases hlt : j < l.length
   ·obtain ⟨bb, o, a3, cap3, rfl, hbl2, d0, d1, d2, d3, d4, hwf, hq⟩ := (HR.out.below (H0.out.trans (HBj.out.mono (by omega))) hB).get j hlt
    have hszj := T.sz_get l j hlt
    have hlb : bb < wr.heap.size := by omega
    have HWF := Lib.hid hwf
    have HQ := Lib.hid hq
    have hlen2 : (packGs true (l.take j)).length ≤ 20971520 := by have := packGs_len true (l.take j); have := T.szL_take_le l j; omega
    have hlen3 : (packG true l[j]).length ≤ 20971539 := by have := packG_len true l[j]; omega
    clear hwf hq
    go_wp2_with fail
    refine (HI.out l[j] (List.getElem_mem hlt) a3 cap3 B wr HQ.out HWF.out (by have := HZ.out; omega) (by omega)).mono ?_
    rintro e w3 ⟨a5, c5, rfl, happ3, hb3⟩
    have hs3 := hb3.size
    obtain ⟨a4, c4, w4, hrun, happ4, hb4, _, _, _⟩ := run_appL (P := Tryz.prog) w3 EByte.elem 22 22 (.int .u8 0) 1 Tryz.underlying22 info_Byte2 rfl W0.heap.size a' c' (L ++ packGs true (l.take j)) [] (HAj.out.agree EByte.elem (fun f hf => hb3.block f hf) (by omega)) (by omega) HAj.out.cap.1 a5 c5 (packG true l[j]) [] ((happ3.rd hs3).srcs EByte.flat) (by simp) (by rw [List.length_append]; unfold maxLen; omega) (by rw [List.length_append]; omega)
    have HA4 := Lib.hid happ4
    have HB4 := Lib.hid ((HBj.out.trans (hb3.mono (by omega))).trans hb4)
    have HS := Lib.hid (show L ++ packGs true (l.take (j + 1)) = (L ++ packGs true (l.take j)) ++ packG true l[j] from by rw [packGs_succ true l j hlt, List.append_assoc])
    simp only [List.length_append] at hrun
    clear happ3 hb3 happ4 hb4
    go_wp2_with (at_builtin; refine Lib.wpList_append_run _ rfl _ _ _ _ rfl _ _ rfl rfl _ _ hrun ?_)
    go_roundw
    case rel => exact ⟨j + 1, a4, c4, by omega, by go_num, by rw [HS.out, List.length_append, List.length_append], Lib.hid (by rw [HS.out]; exact HA4.out), HB4⟩
    case measure => simp [intOf]; omega
   ·have hjj : l.length = j := by omega
    have HJ := Lib.hid (show l.take j = l from by rw [← hjj, List.take_length])
    rw [HJ.out] at HAj ⊢
    have hKl := Lib.hid (show (L ++ packGs true l).length ≤ 20971529 from by have := packGs_len true l; rw [List.length_append]; omega)
    generalize L ++ packGs true l = K at *
    have hcap := HAj.out.cap
    obtain ⟨a4, c4, w4, hrun, happ4, hb4, _, _, _⟩ := run_appL (P := Tryz.prog) (wr.alloc (.cells #[.int .u8 255] 5)) EByte.elem 22 22 (.int .u8 0) 1 Tryz.underlying22 info_Byte2 rfl W0.heap.size a' c' K [] (HAj.out.agree EByte.elem (fun f hf => (below1 wr _).block f hf) (by omega)) (by simp; omega) hcap.1 (some ⟨wr.heap.size, 0, none⟩) 1 [255] [] (Srcs.one ⟨rfl, (Is.new wr #[.int .u8 255] 5).cell 0 rfl, ⟨by decide, by decide⟩⟩) (by simp) (by unfold maxLen; have := hKl.out; simp only [List.length_cons, List.length_nil]; omega) (by have := hKl.out; simp only [List.length_cons, List.length_nil]; omega)
    have HF4 := Lib.hid (happ4.less (show w.heap.size ≤ _ by omega))
    have HB4 := Lib.hid (H0.out.trans ((HBj.out.trans (((below1 wr _).mono (by omega)).trans hb4)).mono (by omega)))
    have hl255 : (K ++ [(255 : Int)]).length = K.length + 1 := by rw [List.length_append]; rfl
    rw [hl255] at hrun
    clear happ4 hb4 hcap
    go_wp2_with (at_builtin; refine Lib.wpList_append_run _ rfl _ _ _ _ rfl _ _ rfl rfl _ _ hrun ?_)
    go_ret
    exact ⟨a4, c4, ret_sl (by rw [HE.out, hl255]), by rw [HE.out]; exact HF4.out, HB4.out⟩
set_option maxHeartbeats 8000000 in
theorem po10 (n x : Int) (s : ByteArray) (l : List T) (IH : ∀ t ∈ l, PO t) : PO (.mk 10 n x s l) := by
 intro a cap B w hr hwf hsz hB
 have HW := Lib.hid hwf
 obtain ⟨hwk, hwn, hwx, hws⟩ := hwf
 simp only [cV, T.k, T.n, T.x, T.s, T.l] at hr hwk hwn hwx hws ⊢
 have hszl : T.szL l ≤ 1048576 := by simp only [T.sz] at hsz; omega
 have hss : s.size ≤ 1048576 := by simp only [T.sz] at hsz; omega
 obtain ⟨hl1, hl2⟩ := hr.len
 have hl0 := T.length_le_szL l
 have HR := Lib.hid hr
 have HI := Lib.hid IH
 have HZ := Lib.hid hszl
 obtain ⟨L, hL⟩ : ∃ L, headL 5 0 (-1) = L := ⟨_, rfl⟩
 have hLl : L.length ≤ 9 := by rw [← hL]; exact headL_len _ _ _
 have HE := Lib.hid (show packG true (.mk 10 n x s l) = (L ++ packGs true l) ++ [255] from by rw [packG, if_neg (by omega), if_neg (by omega), if_neg (by omega), if_neg (by omega), if_neg (by omega), if_neg (by omega), if_neg (by omega), if_neg (by omega), if_pos rfl, elG, if_pos rfl, hL, List.append_assoc])
 have HL := Lib.hid hL
 clear hr IH hwk hwn hwx hws hsz hL
 go_enter Tryz.func39, Tryz.ntmps39
 go_wp2_with fail
 generalize hW : (w.alloc (Obj.cells _ 26)).alloc (Obj.cells #[] 5) = W0
 have q1 : Is W0 w.heap.size 26 (cV (.mk 10 n x s l) a cap) := by subst hW; exact (Is.new _ _ _).alloc _
 have H0 := Lib.hid (show Below w.heap.size w W0 from by subst hW; exact below2 _ _ _)
 have hs0 : W0.heap.size = w.heap.size + 2 := by subst hW; simp
 clear hW
 have Q := Lib.hid q1
 have hl3 : w.heap.size < W0.heap.size := by omega
 refine (spec_PutHead0 5 0 (-1) _ _ ⟨by decide, by decide⟩).mono ?_
 rw [HL.out]
 rintro e w2 ⟨a2, c2, rfl, happ, hb⟩
 have HA := Lib.hid happ; have HB := Lib.hid hb
 have q2 := q1.below hb hl3
 simp only [cV, T.k, T.n, T.x, T.s, T.l] at q2
 have lg2 := q2.lt
 obtain ⟨r0, r1, r2, r3, r4⟩ := q2.cells5
 clear happ hb q1 q2
 rcases Nat.eq_zero_or_pos s.size with hz0 | hz0
 all_goals
  go_wp2_with fail
  go_loopw [6, 7] (fun q i wr => ∃ (j : Nat) (a' : Option Addr) (c' : Nat), j ≤ l.length ∧ i = .int .i64 j ∧ q = .slice a' (L ++ packGs true (l.take j)).length c' ∧ Hid (AppL EByte 1 5 wr W0.heap.size a' c' (L ++ packGs true (l.take j)) []) ∧ Hid (Below W0.heap.size W0 wr)) (fun _ i _ => l.length - (intOf i).toNat)
  case atStart => exact ⟨0, a2, c2, Nat.zero_le _, rfl, by simp [packGs], by simpa [packGs] using HA, HB⟩
  case round =>
   clear HA HB r0 r1 r2 r3 r4 lg2
   obtain ⟨j, a', c', hj, rfl, rfl, HAj, HBj⟩ := hrel
   have hbs := HBj.out.size
   have qr := Q.out.below HBj.out hl3
   simp only [cV, T.k, T.n, T.x, T.s, T.l] at qr
   have lgr := qr.lt
   obtain ⟨r0, r1, r2, r3, r4⟩ := qr.cells5
   clear qr
   by_cases hlt : j < l.length
   ·obtain ⟨bb, o, a3, cap3, rfl, hbl2, d0, d1, d2, d3, d4, hwf, hq⟩ := (HR.out.below (H0.out.trans (HBj.out.mono (by omega))) hB).get j hlt
    have hszj := T.sz_get l j hlt
    have hlb : bb < wr.heap.size := by omega
    have HWF := Lib.hid hwf
    have HQ := Lib.hid hq
    have hlen2 : (packGs true (l.take j)).length ≤ 20971520 := by have := packGs_len true (l.take j); have := T.szL_take_le l j; omega
    have hlen3 : (packG true l[j]).length ≤ 20971539 := by have := packG_len true l[j]; omega
    clear hwf hq
    go_wp2_with fail
    refine (HI.out l[j] (List.getElem_mem hlt) a3 cap3 B wr HQ.out HWF.out (by have := HZ.out; omega) (by omega)).mono ?_
    rintro e w3 ⟨a5, c5, rfl, happ3, hb3⟩
    have hs3 := hb3.size
    obtain ⟨a4, c4, w4, hrun, happ4, hb4, _, _, _⟩ := run_appL (P := Tryz.prog) w3 EByte.elem 22 22 (.int .u8 0) 1 Tryz.underlying22 info_Byte2 rfl W0.heap.size a' c' (L ++ packGs true (l.take j)) [] (HAj.out.agree EByte.elem (fun f hf => hb3.block f hf) (by omega)) (by omega) HAj.out.cap.1 a5 c5 (packG true l[j]) [] ((happ3.rd hs3).srcs EByte.flat) (by simp) (by rw [List.length_append]; unfold maxLen; omega) (by rw [List.length_append]; omega)
    have HA4 := Lib.hid happ4
    have HB4 := Lib.hid ((HBj.out.trans (hb3.mono (by omega))).trans hb4)
    have HS := Lib.hid (show L ++ packGs true (l.take (j + 1)) = (L ++ packGs true (l.take j)) ++ packG true l[j] from by rw [packGs_succ true l j hlt, List.append_assoc])
    simp only [List.length_append] at hrun
    clear happ3 hb3 happ4 hb4
    go_wp2_with (at_builtin; refine Lib.wpList_append_run _ rfl _ _ _ _ rfl _ _ rfl rfl _ _ hrun ?_)
    go_roundw
    case rel => exact ⟨j + 1, a4, c4, by omega, by go_num, by rw [HS.out, List.length_append, List.length_append], Lib.hid (by rw [HS.out]; exact HA4.out), HB4⟩
    case measure => simp [intOf]; omega
   ·have hjj : l.length = j := by omega
    have HJ := Lib.hid (show l.take j = l from by rw [← hjj, List.take_length])
    rw [HJ.out] at HAj ⊢
    have hKl := Lib.hid (show (L ++ packGs true l).length ≤ 20971529 from by have := packGs_len true l; rw [List.length_append]; omega)
    generalize L ++ packGs true l = K at *
    have hcap := HAj.out.cap
    obtain ⟨a4, c4, w4, hrun, happ4, hb4, _, _, _⟩ := run_appL (P := Tryz.prog) (wr.alloc (.cells #[.int .u8 255] 5)) EByte.elem 22 22 (.int .u8 0) 1 Tryz.underlying22 info_Byte2 rfl W0.heap.size a' c' K [] (HAj.out.agree EByte.elem (fun f hf => (below1 wr _).block f hf) (by omega)) (by simp; omega) hcap.1 (some ⟨wr.heap.size, 0, none⟩) 1 [255] [] (Srcs.one ⟨rfl, (Is.new wr #[.int .u8 255] 5).cell 0 rfl, ⟨by decide, by decide⟩⟩) (by simp) (by unfold maxLen; have := hKl.out; simp only [List.length_cons, List.length_nil]; omega) (by have := hKl.out; simp only [List.length_cons, List.length_nil]; omega)
    have HF4 := Lib.hid (happ4.less (show w.heap.size ≤ _ by omega))
    have HB4 := Lib.hid (H0.out.trans ((HBj.out.trans (((below1 wr _).mono (by omega)).trans hb4)).mono (by omega)))
    have hl255 : (K ++ [(255 : Int)]).length = K.length + 1 := by rw [List.length_append]; rfl
    rw [hl255] at hrun
    clear happ4 hb4 hcap
    go_wp2_with (at_builtin; refine Lib.wpList_append_run _ rfl _ _ _ _ rfl _ _ rfl rfl _ _ hrun ?_)
    go_ret
    exact ⟨a4, c4, ret_sl (by rw [HE.out, hl255]), by rw [HE.out]; exact HF4.out, HB4.out⟩
set_option maxHeartbeats 8000000 in
theorem po7 (n x : Int) (s : ByteArray) (l : List T) : PO (.mk 7 n x s l) := by
 intro a cap B w hr hwf hsz hB
 have HW := Lib.hid hwf
 obtain ⟨hwk, hwn, hwx, hws⟩ := hwf
 simp only [cV, T.k, T.n, T.x, T.s, T.l] at hr hwk hwn hwx hws ⊢
 have hszl : T.szL l ≤ 1048576 := by simp only [T.sz] at hsz; omega
 have hss : s.size ≤ 1048576 := by simp only [T.sz] at hsz; omega
 obtain ⟨hl1, hl2⟩ := hr.len
 have hl0 := T.length_le_szL l
 have HR := Lib.hid hr
 obtain ⟨L, hL⟩ : ∃ L, headL 3 0 (-1) = L := ⟨_, rfl⟩
 have hLl : L.length ≤ 9 := by rw [← hL]; exact headL_len _ _ _
 obtain ⟨K, hK⟩ : ∃ K, L ++ (if s.size = 0 then [] else hdL 3 s.size ++ byteL s) = K := ⟨_, rfl⟩
 have HK := Lib.hid hK
 have hKl := Lib.hid (show K.length ≤ 1048594 from by
  rw [← hK]
  have h1 := hdL_len 3 s.size; have h2 := byteL_len s
  split <;> simp only [List.length_append, List.length_nil] <;> omega)
 have HE := Lib.hid (show packG true (.mk 7 n x s l) = K ++ [255] from by rw [packG, if_neg (by omega), if_neg (by omega), if_neg (by omega), if_neg (by omega), if_neg (by omega), if_pos rfl, txG, if_pos rfl, hL, ← List.append_assoc, hK])
 have HL := Lib.hid hL
 clear hr hwk hwn hwx hws hsz hL hK
 go_enter Tryz.func39, Tryz.ntmps39
 go_wp2_with fail
 generalize hW : (w.alloc (Obj.cells _ 26)).alloc (Obj.cells #[] 5) = W0
 have q1 : Is W0 w.heap.size 26 (cV (.mk 7 n x s l) a cap) := by subst hW; exact (Is.new _ _ _).alloc _
 have H0 := Lib.hid (show Below w.heap.size w W0 from by subst hW; exact below2 _ _ _)
 have hs0 : W0.heap.size = w.heap.size + 2 := by subst hW; simp
 clear hW
 have Q := Lib.hid q1
 have hl3 : w.heap.size < W0.heap.size := by omega
 refine (spec_PutHead0 3 0 (-1) _ _ ⟨by decide, by decide⟩).mono ?_
 rw [HL.out]
 rintro e w2 ⟨a2, c2, rfl, happ, hb⟩
 have HA := Lib.hid happ; have HB := Lib.hid hb
 have q2 := q1.below hb hl3
 simp only [cV, T.k, T.n, T.x, T.s, T.l] at q2
 have hs2 := hb.size
 have HRD := Lib.hid (happ.rd (by omega))
 have lg2 := q2.lt
 obtain ⟨r0, r1, r2, r3, r4⟩ := q2.cells5
 clear happ hb q1 q2
 go_upto_region 22 with (fail)
 go_cut [59] (fun bq wx => bq = .bool (decide (0 < s.size)) ∧ w2 = wx)
 case first =>
  rcases Nat.eq_zero_or_pos s.size with hz0 | hz0
  all_goals
   go_wp2_with fail
   go_meet
   case rel => exact ⟨by simp [hz0], rfl⟩
 case rest =>
  obtain ⟨rfl, hwx⟩ := hcut
  subst hwx
  go_upto_if 59 with (fail)
  go_cut [6] (fun bq wx => ∃ a' c', bq = .slice a' K.length c' ∧ Hid (AppL EByte 1 5 wx W0.heap.size a' c' K []) ∧ Hid (Below W0.heap.size W0 wx))
  case first =>
   by_cases hz0 : s.size = 0
   ·have hKL : K = L := by rw [← HK.out, if_pos hz0, List.append_nil]
    go_wp2_with fail
    go_meet
    case rel => exact ⟨a2, c2, by rw [hKL], by rw [hKL]; exact HA, HB⟩
   ·have hz1 : 0 < s.size := Nat.pos_of_ne_zero hz0
    have HKL := Lib.hid (show K = (L ++ hdL 3 s.size) ++ byteL s from by rw [← HK.out, if_neg hz0, List.append_assoc])
    have HLU := Lib.hid (show ∀ x ∈ L, U8 x from by rw [← HL.out]; exact headL_u8 _ _ _)
    clear hz0
    go_upto_region 23 with (fail)
    refine tkW (w2.heap.size) w2 (fun hHeld => ?_)
    refine tkS 0 60 rfl ?_
    refine tkS 1 61 rfl ?_
    refine tkS 2 62 rfl ?_
    refine tkS 3 63 rfl ?_
    refine tkS 4 64 rfl ?_
    refine tkS 7 67 rfl ?_
    refine tkS 8 68 rfl ?_
    refine tkA 5 65 rfl (fun K hK => ?_)
    go_simp; (first | (go_at_call 73; refine (spec_PutHead L 3 (s.size : Int) kk a2 c2 w2.heap.size _ (HRD.out.below EByte.loc (‹_ ∧ Below (w2.heap.size) w2 _›).2 (Nat.le_refl _)) ⟨by omega, by omega⟩ (by omega) (by have := (‹_ ∧ Below (w2.heap.size) w2 _›).2.size; omega)).mono ?_; rintro e w3 ⟨a3, c3, rfl, happ3, hb3⟩; have HA3 := Lib.hid (happ3.less (show w2.heap.size ≤ _ by omega)); clear happ3; have hsz3 := hb3.size; have HU := Lib.hid (u8_app HLU.out (headL_u8 3 (s.size : Int) kk)); have HLN := Lib.hid (headL_len 3 (s.size : Int) kk)) | (go_at_call 75; refine (spec_HeadForOk 3 (s.size : Int) _ (by omega) (by omega)).mono ?_; rintro e w2' ⟨⟨kk, rfl, hkk⟩, hb2⟩; have hsz2 := hb2.size; (try simp only [World.size_drew] at hsz2)) | (refine step_appS 22 rfl rfl _ _ _ _ rfl Tryz.underlying22 Tryz.underlying9 info_Byte2 w2.heap.size a3 c3 (L ++ headL 3 (s.size : Int) kk) HU.out (by rw [List.length_append]; rfl) HA3.out (by have := (‹_ ∧ Below (w2.heap.size) w2 _›).2.size; first | omega | (simp only [World.size_drew] at this ⊢; omega)) s rfl (by have := HLN.out; rw [List.length_append]; omega) ?_; intro a4 c4 w4 happ4 hb4 hout4 hsz4)); go_wp2_with fail; refine tkK hK (fun hHeld => ?_); clear hK K
    refine tkA 6 66 rfl (fun K hK => ?_)
    focus (go_simp; (first | (go_at_call 73; refine (spec_PutHead L 3 (s.size : Int) kk a2 c2 w2.heap.size _ (HRD.out.below EByte.loc (‹_ ∧ Below (w2.heap.size) w2 _›).2 (Nat.le_refl _)) ⟨by omega, by omega⟩ (by omega) (by have := (‹_ ∧ Below (w2.heap.size) w2 _›).2.size; omega)).mono ?_; rintro e w3 ⟨a3, c3, rfl, happ3, hb3⟩; have HA3 := Lib.hid (happ3.less (show w2.heap.size ≤ _ by omega)); clear happ3; have hsz3 := hb3.size; have HU := Lib.hid (u8_app HLU.out (headL_u8 3 (s.size : Int) kk)); have HLN := Lib.hid (headL_len 3 (s.size : Int) kk)) | (go_at_call 75; refine (spec_HeadForOk 3 (s.size : Int) _ (by omega) (by omega)).mono ?_; rintro e w2' ⟨⟨kk, rfl, hkk⟩, hb2⟩; have hsz2 := hb2.size; (try simp only [World.size_drew] at hsz2)) | (refine step_appS 22 rfl rfl _ _ _ _ rfl Tryz.underlying22 Tryz.underlying9 info_Byte2 w2.heap.size a3 c3 (L ++ headL 3 (s.size : Int) kk) HU.out (by rw [List.length_append]; rfl) HA3.out (by have := (‹_ ∧ Below (w2.heap.size) w2 _›).2.size; first | omega | (simp only [World.size_drew] at this ⊢; omega)) s rfl (by have := HLN.out; rw [List.length_append]; omega) ?_; intro a4 c4 w4 happ4 hb4 hout4 hsz4)); go_wp2_with fail; refine tkK hK (fun hHeld => ?_); clear hK K)
    refine tkA 9 69 rfl (fun K hK => ?_)
    focus ((first | (go_at_call 73; refine (spec_PutHead L 3 (s.size : Int) kk a2 c2 w2.heap.size _ (HRD.out.below EByte.loc (‹_ ∧ Below (w2.heap.size) w2 _›).2 (Nat.le_refl _)) ⟨by omega, by omega⟩ (by omega) (by have := (‹_ ∧ Below (w2.heap.size) w2 _›).2.size; omega)).mono ?_; rintro e w3 ⟨a3, c3, rfl, happ3, hb3⟩; have HA3 := Lib.hid (happ3.less (show w2.heap.size ≤ _ by omega)); clear happ3; have hsz3 := hb3.size; have HU := Lib.hid (u8_app HLU.out (headL_u8 3 (s.size : Int) kk)); have HLN := Lib.hid (headL_len 3 (s.size : Int) kk)) | (go_at_call 75; refine (spec_HeadForOk 3 (s.size : Int) _ (by omega) (by omega)).mono ?_; rintro e w2' ⟨⟨kk, rfl, hkk⟩, hb2⟩; have hsz2 := hb2.size; (try simp only [World.size_drew] at hsz2)) | (refine step_appS 22 rfl rfl _ _ _ _ rfl Tryz.underlying22 Tryz.underlying9 info_Byte2 w2.heap.size a3 c3 (L ++ headL 3 (s.size : Int) kk) HU.out (by rw [List.length_append]; rfl) HA3.out (by have := (‹_ ∧ Below (w2.heap.size) w2 _›).2.size; first | omega | (simp only [World.size_drew] at this ⊢; omega)) s rfl (by have := HLN.out; rw [List.length_append]; omega) ?_; intro a4 c4 w4 happ4 hb4 hout4 hsz4)); refine tkK hK (fun hHeld => ?_); clear hK K)
    refine tkS 10 6 rfl ?_
    refine tkE ?_
    all_goals
     have hBB := (‹_ ∧ Below (w2.heap.size) w2 _›).2
     go_wp2_with fail
     go_meet
     case rel => exact ⟨a4, c4, by rw [HKL.out, hkk]; simp only [List.length_append, Nat.add_assoc], by rw [HKL.out, hkk]; exact Lib.hid (happ4.less (by omega)), Lib.hid (HB.out.trans (hBB.mono (by omega)))⟩
  case rest =>
   obtain ⟨ax, cx, rfl, HAx, HBx⟩ := hcut
   rename World => wx
   clear r0 r1 r2 r3 r4 lg2 HA HB HRD hs2
   go_wp2_with fail
   go_loopw [6, 7] (fun q i wr => i = .int .i64 0 ∧ ∃ (a' : Option Addr) (c' : Nat), q = .slice a' K.length c' ∧ Hid (AppL EByte 1 5 wr W0.heap.size a' c' K []) ∧ Hid (Below W0.heap.size W0 wr)) (fun _ i _ => 0)
   case atStart => exact ⟨rfl, ax, cx, rfl, HAx, HBx⟩
   case round =>
    obtain ⟨rfl, a', c', rfl, HAj, HBj⟩ := hrel
    have hbs := HBj.out.size
    have qr := Q.out.below HBj.out hl3
    simp only [cV, T.k, T.n, T.x, T.s, T.l] at qr
    have lgr := qr.lt
    obtain ⟨r0, r1, r2, r3, r4⟩ := qr.cells5
    clear qr
    rcases Nat.eq_zero_or_pos l.length with hz1 | hz1
    all_goals
     have hcap := HAj.out.cap
     obtain ⟨a4, c4, w4, hrun, happ4, hb4, _, _, _⟩ := run_appL (P := Tryz.prog) (wr.alloc (.cells #[.int .u8 255] 5)) EByte.elem 22 22 (.int .u8 0) 1 Tryz.underlying22 info_Byte2 rfl W0.heap.size a' c' K [] (HAj.out.agree EByte.elem (fun f hf => (below1 wr _).block f hf) (by omega)) (by simp; omega) hcap.1 (some ⟨wr.heap.size, 0, none⟩) 1 [255] [] (Srcs.one ⟨rfl, (Is.new wr #[.int .u8 255] 5).cell 0 rfl, ⟨by decide, by decide⟩⟩) (by simp) (by unfold maxLen; have := hKl.out; simp only [List.length_cons, List.length_nil]; omega) (by have := hKl.out; simp only [List.length_cons, List.length_nil]; omega)
     have HF4 := Lib.hid (happ4.less (show w.heap.size ≤ _ by omega))
     have HB4 := Lib.hid (H0.out.trans ((HBj.out.trans (((below1 wr _).mono (by omega)).trans hb4)).mono (by omega)))
     have hl255 : (K ++ [(255 : Int)]).length = K.length + 1 := by rw [List.length_append]; rfl
     rw [hl255] at hrun
     clear happ4 hb4 hcap
     go_wp2_with (at_builtin; refine Lib.wpList_append_run _ rfl _ _ _ _ rfl _ _ rfl rfl _ _ hrun ?_)
     go_ret
     exact ⟨a4, c4, ret_sl (by rw [HE.out, hl255]), by rw [HE.out]; exact HF4.out, HB4.out⟩
set_option maxHeartbeats 8000000 in
theorem po8 (n x : Int) (s : ByteArray) (l : List T) : PO (.mk 8 n x s l) := by
 intro a cap B w hr hwf hsz hB
 have HW := Lib.hid hwf
 obtain ⟨hwk, hwn, hwx, hws⟩ := hwf
 simp only [cV, T.k, T.n, T.x, T.s, T.l] at hr hwk hwn hwx hws ⊢
 have hszl : T.szL l ≤ 1048576 := by simp only [T.sz] at hsz; omega
 have hss : s.size ≤ 1048576 := by simp only [T.sz] at hsz; omega
 obtain ⟨hl1, hl2⟩ := hr.len
 have hl0 := T.length_le_szL l
 have HR := Lib.hid hr
 obtain ⟨L, hL⟩ : ∃ L, headL 2 0 (-1) = L := ⟨_, rfl⟩
 have hLl : L.length ≤ 9 := by rw [← hL]; exact headL_len _ _ _
 obtain ⟨K, hK⟩ : ∃ K, L ++ (if s.size = 0 then [] else hdL 2 s.size ++ byteL s) = K := ⟨_, rfl⟩
 have HK := Lib.hid hK
 have hKl := Lib.hid (show K.length ≤ 1048594 from by
  rw [← hK]
  have h1 := hdL_len 2 s.size; have h2 := byteL_len s
  split <;> simp only [List.length_append, List.length_nil] <;> omega)
 have HE := Lib.hid (show packG true (.mk 8 n x s l) = K ++ [255] from by rw [packG, if_neg (by omega), if_neg (by omega), if_neg (by omega), if_neg (by omega), if_neg (by omega), if_neg (by omega), if_pos rfl, txG, if_pos rfl, hL, ← List.append_assoc, hK])
 have HL := Lib.hid hL
 clear hr hwk hwn hwx hws hsz hL hK
 go_enter Tryz.func39, Tryz.ntmps39
 go_wp2_with fail
 generalize hW : (w.alloc (Obj.cells _ 26)).alloc (Obj.cells #[] 5) = W0
 have q1 : Is W0 w.heap.size 26 (cV (.mk 8 n x s l) a cap) := by subst hW; exact (Is.new _ _ _).alloc _
 have H0 := Lib.hid (show Below w.heap.size w W0 from by subst hW; exact below2 _ _ _)
 have hs0 : W0.heap.size = w.heap.size + 2 := by subst hW; simp
 clear hW
 have Q := Lib.hid q1
 have hl3 : w.heap.size < W0.heap.size := by omega
 refine (spec_PutHead0 2 0 (-1) _ _ ⟨by decide, by decide⟩).mono ?_
 rw [HL.out]
 rintro e w2 ⟨a2, c2, rfl, happ, hb⟩
 have HA := Lib.hid happ; have HB := Lib.hid hb
 have q2 := q1.below hb hl3
 simp only [cV, T.k, T.n, T.x, T.s, T.l] at q2
 have hs2 := hb.size
 have HRD := Lib.hid (happ.rd (by omega))
 have lg2 := q2.lt
 obtain ⟨r0, r1, r2, r3, r4⟩ := q2.cells5
 clear happ hb q1 q2
 go_upto_region 22 with (fail)
 go_cut [59] (fun bq wx => bq = .bool (decide (0 < s.size)) ∧ w2 = wx)
 case first =>
  rcases Nat.eq_zero_or_pos s.size with hz0 | hz0
  all_goals
   go_wp2_with fail
   go_meet
   case rel => exact ⟨by simp [hz0], rfl⟩
 case rest =>
  obtain ⟨rfl, hwx⟩ := hcut
  subst hwx
  go_upto_if 59 with (fail)
  go_cut [6] (fun bq wx => ∃ a' c', bq = .slice a' K.length c' ∧ Hid (AppL EByte 1 5 wx W0.heap.size a' c' K []) ∧ Hid (Below W0.heap.size W0 wx))
  case first =>
   by_cases hz0 : s.size = 0
   ·have hKL : K = L := by rw [← HK.out, if_pos hz0, List.append_nil]
    go_wp2_with fail
    go_meet
    case rel => exact ⟨a2, c2, by rw [hKL], by rw [hKL]; exact HA, HB⟩
   ·have hz1 : 0 < s.size := Nat.pos_of_ne_zero hz0
    have HKL := Lib.hid (show K = (L ++ hdL 2 s.size) ++ byteL s from by rw [← HK.out, if_neg hz0, List.append_assoc])
    have HLU := Lib.hid (show ∀ x ∈ L, U8 x from by rw [← HL.out]; exact headL_u8 _ _ _)
    clear hz0
    go_upto_region 23 with (fail)
    refine tkW (w2.heap.size) w2 (fun hHeld => ?_)
    refine tkS 0 60 rfl ?_
    refine tkS 1 61 rfl ?_
    refine tkS 2 62 rfl ?_
    refine tkS 3 63 rfl ?_
    refine tkS 4 64 rfl ?_
    refine tkS 7 67 rfl ?_
    refine tkS 8 68 rfl ?_
    refine tkA 5 65 rfl (fun K hK => ?_)
    go_simp; (first | (go_at_call 73; refine (spec_PutHead L 2 (s.size : Int) kk a2 c2 w2.heap.size _ (HRD.out.below EByte.loc (‹_ ∧ Below (w2.heap.size) w2 _›).2 (Nat.le_refl _)) ⟨by omega, by omega⟩ (by omega) (by have := (‹_ ∧ Below (w2.heap.size) w2 _›).2.size; omega)).mono ?_; rintro e w3 ⟨a3, c3, rfl, happ3, hb3⟩; have HA3 := Lib.hid (happ3.less (show w2.heap.size ≤ _ by omega)); clear happ3; have hsz3 := hb3.size; have HU := Lib.hid (u8_app HLU.out (headL_u8 2 (s.size : Int) kk)); have HLN := Lib.hid (headL_len 2 (s.size : Int) kk)) | (go_at_call 75; refine (spec_HeadForOk 2 (s.size : Int) _ (by omega) (by omega)).mono ?_; rintro e w2' ⟨⟨kk, rfl, hkk⟩, hb2⟩; have hsz2 := hb2.size; (try simp only [World.size_drew] at hsz2)) | (refine step_appS 22 rfl rfl _ _ _ _ rfl Tryz.underlying22 Tryz.underlying9 info_Byte2 w2.heap.size a3 c3 (L ++ headL 2 (s.size : Int) kk) HU.out (by rw [List.length_append]; rfl) HA3.out (by have := (‹_ ∧ Below (w2.heap.size) w2 _›).2.size; first | omega | (simp only [World.size_drew] at this ⊢; omega)) s rfl (by have := HLN.out; rw [List.length_append]; omega) ?_; intro a4 c4 w4 happ4 hb4 hout4 hsz4)); go_wp2_with fail; refine tkK hK (fun hHeld => ?_); clear hK K
    refine tkA 6 66 rfl (fun K hK => ?_)
    focus (go_simp; (first | (go_at_call 73; refine (spec_PutHead L 2 (s.size : Int) kk a2 c2 w2.heap.size _ (HRD.out.below EByte.loc (‹_ ∧ Below (w2.heap.size) w2 _›).2 (Nat.le_refl _)) ⟨by omega, by omega⟩ (by omega) (by have := (‹_ ∧ Below (w2.heap.size) w2 _›).2.size; omega)).mono ?_; rintro e w3 ⟨a3, c3, rfl, happ3, hb3⟩; have HA3 := Lib.hid (happ3.less (show w2.heap.size ≤ _ by omega)); clear happ3; have hsz3 := hb3.size; have HU := Lib.hid (u8_app HLU.out (headL_u8 2 (s.size : Int) kk)); have HLN := Lib.hid (headL_len 2 (s.size : Int) kk)) | (go_at_call 75; refine (spec_HeadForOk 2 (s.size : Int) _ (by omega) (by omega)).mono ?_; rintro e w2' ⟨⟨kk, rfl, hkk⟩, hb2⟩; have hsz2 := hb2.size; (try simp only [World.size_drew] at hsz2)) | (refine step_appS 22 rfl rfl _ _ _ _ rfl Tryz.underlying22 Tryz.underlying9 info_Byte2 w2.heap.size a3 c3 (L ++ headL 2 (s.size : Int) kk) HU.out (by rw [List.length_append]; rfl) HA3.out (by have := (‹_ ∧ Below (w2.heap.size) w2 _›).2.size; first | omega | (simp only [World.size_drew] at this ⊢; omega)) s rfl (by have := HLN.out; rw [List.length_append]; omega) ?_; intro a4 c4 w4 happ4 hb4 hout4 hsz4)); go_wp2_with fail; refine tkK hK (fun hHeld => ?_); clear hK K)
    refine tkA 9 69 rfl (fun K hK => ?_)
    focus ((first | (go_at_call 73; refine (spec_PutHead L 2 (s.size : Int) kk a2 c2 w2.heap.size _ (HRD.out.below EByte.loc (‹_ ∧ Below (w2.heap.size) w2 _›).2 (Nat.le_refl _)) ⟨by omega, by omega⟩ (by omega) (by have := (‹_ ∧ Below (w2.heap.size) w2 _›).2.size; omega)).mono ?_; rintro e w3 ⟨a3, c3, rfl, happ3, hb3⟩; have HA3 := Lib.hid (happ3.less (show w2.heap.size ≤ _ by omega)); clear happ3; have hsz3 := hb3.size; have HU := Lib.hid (u8_app HLU.out (headL_u8 2 (s.size : Int) kk)); have HLN := Lib.hid (headL_len 2 (s.size : Int) kk)) | (go_at_call 75; refine (spec_HeadForOk 2 (s.size : Int) _ (by omega) (by omega)).mono ?_; rintro e w2' ⟨⟨kk, rfl, hkk⟩, hb2⟩; have hsz2 := hb2.size; (try simp only [World.size_drew] at hsz2)) | (refine step_appS 22 rfl rfl _ _ _ _ rfl Tryz.underlying22 Tryz.underlying9 info_Byte2 w2.heap.size a3 c3 (L ++ headL 2 (s.size : Int) kk) HU.out (by rw [List.length_append]; rfl) HA3.out (by have := (‹_ ∧ Below (w2.heap.size) w2 _›).2.size; first | omega | (simp only [World.size_drew] at this ⊢; omega)) s rfl (by have := HLN.out; rw [List.length_append]; omega) ?_; intro a4 c4 w4 happ4 hb4 hout4 hsz4)); refine tkK hK (fun hHeld => ?_); clear hK K)
    refine tkS 10 6 rfl ?_
    refine tkE ?_
    all_goals
     have hBB := (‹_ ∧ Below (w2.heap.size) w2 _›).2
     go_wp2_with fail
     go_meet
     case rel => exact ⟨a4, c4, by rw [HKL.out, hkk]; simp only [List.length_append, Nat.add_assoc], by rw [HKL.out, hkk]; exact Lib.hid (happ4.less (by omega)), Lib.hid (HB.out.trans (hBB.mono (by omega)))⟩
  case rest =>
   obtain ⟨ax, cx, rfl, HAx, HBx⟩ := hcut
   rename World => wx
   clear r0 r1 r2 r3 r4 lg2 HA HB HRD hs2
   go_wp2_with fail
   go_loopw [6, 7] (fun q i wr => i = .int .i64 0 ∧ ∃ (a' : Option Addr) (c' : Nat), q = .slice a' K.length c' ∧ Hid (AppL EByte 1 5 wr W0.heap.size a' c' K []) ∧ Hid (Below W0.heap.size W0 wr)) (fun _ i _ => 0)
   case atStart => exact ⟨rfl, ax, cx, rfl, HAx, HBx⟩
   case round =>
    obtain ⟨rfl, a', c', rfl, HAj, HBj⟩ := hrel
    have hbs := HBj.out.size
    have qr := Q.out.below HBj.out hl3
    simp only [cV, T.k, T.n, T.x, T.s, T.l] at qr
    have lgr := qr.lt
    obtain ⟨r0, r1, r2, r3, r4⟩ := qr.cells5
    clear qr
    rcases Nat.eq_zero_or_pos l.length with hz1 | hz1
    all_goals
     have hcap := HAj.out.cap
     obtain ⟨a4, c4, w4, hrun, happ4, hb4, _, _, _⟩ := run_appL (P := Tryz.prog) (wr.alloc (.cells #[.int .u8 255] 5)) EByte.elem 22 22 (.int .u8 0) 1 Tryz.underlying22 info_Byte2 rfl W0.heap.size a' c' K [] (HAj.out.agree EByte.elem (fun f hf => (below1 wr _).block f hf) (by omega)) (by simp; omega) hcap.1 (some ⟨wr.heap.size, 0, none⟩) 1 [255] [] (Srcs.one ⟨rfl, (Is.new wr #[.int .u8 255] 5).cell 0 rfl, ⟨by decide, by decide⟩⟩) (by simp) (by unfold maxLen; have := hKl.out; simp only [List.length_cons, List.length_nil]; omega) (by have := hKl.out; simp only [List.length_cons, List.length_nil]; omega)
     have HF4 := Lib.hid (happ4.less (show w.heap.size ≤ _ by omega))
     have HB4 := Lib.hid (H0.out.trans ((HBj.out.trans (((below1 wr _).mono (by omega)).trans hb4)).mono (by omega)))
     have hl255 : (K ++ [(255 : Int)]).length = K.length + 1 := by rw [List.length_append]; rfl
     rw [hl255] at hrun
     clear happ4 hb4 hcap
     go_wp2_with (at_builtin; refine Lib.wpList_append_run _ rfl _ _ _ _ rfl _ _ rfl rfl _ _ hrun ?_)
     go_ret
     exact ⟨a4, c4, ret_sl (by rw [HE.out, hl255]), by rw [HE.out]; exact HF4.out, HB4.out⟩
set_option maxHeartbeats 8000000 in
theorem po11 (n x : Int) (s : ByteArray) (l : List T) (IH : ∀ t ∈ l, PO t) (h0 : 0 ≤ n ∧ n ≤ 1000000000000000) : PO (.mk 11 n x s l) := by
 intro a cap B w hr hwf hsz hB
 have HW := Lib.hid hwf
 obtain ⟨hwk, hwn, hwx, hws⟩ := hwf
 simp only [cV, T.k, T.n, T.x, T.s, T.l] at hr hwk hwn hwx hws ⊢
 have hszl : T.szL l ≤ 1048576 := by simp only [T.sz] at hsz; omega
 have hss : s.size ≤ 1048576 := by simp only [T.sz] at hsz; omega
 obtain ⟨hl1, hl2⟩ := hr.len
 have hl0 := T.length_le_szL l
 have HR := Lib.hid hr
 have HI := Lib.hid IH
 have HZ := Lib.hid hszl
 obtain ⟨L, hL⟩ : ∃ L, hdL 6 n = L := ⟨_, rfl⟩
 have hLl : L.length ≤ 9 := by rw [← hL]; exact hdL_len _ _
 have HE := Lib.hid (show packG true (.mk 11 n x s l) = L ++ packGs true l from by rw [packG, if_neg (by omega), if_neg (by omega), if_neg (by omega), if_neg (by omega), if_neg (by omega), if_neg (by omega), if_neg (by omega), if_neg (by omega), if_neg (by omega), if_pos rfl, if_pos h0, nuG, if_pos rfl, hL])
 have HL := Lib.hid hL
 have DN := Lib.hid (show decide (0 ≤ n ∧ n ≤ 1000000000000000) = true from decide_eq_true h0)
 have H1 := Lib.hid h0
 have q0 := Is.new w (cV (.mk 11 n x s l) a cap) 26
 simp only [cV, T.k, T.n, T.x, T.s, T.l] at q0
 obtain ⟨c0, c1, c2', c3, c4⟩ := q0.cells5
 have lg := q0.lt
 clear hr IH hwk hwn hwx hws hsz hL h0
 go_enter Tryz.func39, Tryz.ntmps39
 go_wp2_with (go_at_call 74; refine (spec_l1InE _ _ _ _).mono ?_; rintro ee w2 ⟨rfl, rfl⟩; rw [DN.out])
 clear q0 c0 c1 c2' c3 c4 lg
 generalize hW : (w.alloc (Obj.cells _ 26)).alloc (Obj.cells #[] 5) = W0
 have q1 : Is W0 w.heap.size 26 (cV (.mk 11 n x s l) a cap) := by subst hW; exact (Is.new _ _ _).alloc _
 have H0 := Lib.hid (show Below w.heap.size w W0 from by subst hW; exact below2 _ _ _)
 have hs0 : W0.heap.size = w.heap.size + 2 := by subst hW; simp
 clear hW
 have Q := Lib.hid q1
 have hl3 : w.heap.size < W0.heap.size := by omega
 refine (spec_HeadForOk 6 n _ (by omega) H1.out).mono ?_
 rintro e w1 ⟨⟨kk, rfl, hkk⟩, hb1⟩
 rw [HL.out] at hkk
 have HB1 := Lib.hid hb1
 have hs1 := hb1.size
 clear hb1
 go_wp2_with fail
 refine (spec_PutHead0 6 n kk _ _ ⟨by have := H1.out; omega, by have := H1.out; omega⟩).mono ?_
 rw [← hkk]
 rintro e w2 ⟨a2, c2, rfl, happ, hb⟩
 have HA := Lib.hid (happ.less (show W0.heap.size ≤ _ by omega)); have HB := Lib.hid (HB1.out.trans (hb.mono hs1))
 clear happ hb q1 hkk
 go_wp2_with fail
 go_loopw [4, 5] (fun q i wr => ∃ (j : Nat) (a' : Option Addr) (c' : Nat), j ≤ l.length ∧ i = .int .i64 j ∧ q = .slice a' (L ++ packGs true (l.take j)).length c' ∧ Hid (AppL EByte 1 5 wr W0.heap.size a' c' (L ++ packGs true (l.take j)) []) ∧ Hid (Below W0.heap.size W0 wr)) (fun _ i _ => l.length - (intOf i).toNat)
 case atStart => exact ⟨0, a2, c2, Nat.zero_le _, rfl, by simp [packGs], by simpa [packGs] using HA, HB⟩
 case round =>
  clear HA HB HB1 hs1
  obtain ⟨j, a', c', hj, rfl, rfl, HAj, HBj⟩ := hrel
  have hbs := HBj.out.size
  have qr := Q.out.below HBj.out hl3
  simp only [cV, T.k, T.n, T.x, T.s, T.l] at qr
  have lgr := qr.lt
  obtain ⟨r0, r1, r2, r3, r4⟩ := qr.cells5
  clear qr
  by_cases hlt : j < l.length
  ·obtain ⟨bb, o, a3, cap3, rfl, hbl2, d0, d1, d2, d3, d4, hwf, hq⟩ := (HR.out.below (H0.out.trans (HBj.out.mono (by omega))) hB).get j hlt
   have hszj := T.sz_get l j hlt
   have hlb : bb < wr.heap.size := by omega
   have HWF := Lib.hid hwf
   have HQ := Lib.hid hq
   have hlen2 : (packGs true (l.take j)).length ≤ 20971520 := by have := packGs_len true (l.take j); have := T.szL_take_le l j; omega
   have hlen3 : (packG true l[j]).length ≤ 20971539 := by have := packG_len true l[j]; omega
   clear hwf hq
   go_wp2_with fail
   refine (HI.out l[j] (List.getElem_mem hlt) a3 cap3 B wr HQ.out HWF.out (by have := HZ.out; omega) (by omega)).mono ?_
   rintro e w3 ⟨a5, c5, rfl, happ3, hb3⟩
   have hs3 := hb3.size
   obtain ⟨a4, c4, w4, hrun, happ4, hb4, _, _, _⟩ := run_appL (P := Tryz.prog) w3 EByte.elem 22 22 (.int .u8 0) 1 Tryz.underlying22 info_Byte2 rfl W0.heap.size a' c' (L ++ packGs true (l.take j)) [] (HAj.out.agree EByte.elem (fun f hf => hb3.block f hf) (by omega)) (by omega) HAj.out.cap.1 a5 c5 (packG true l[j]) [] ((happ3.rd hs3).srcs EByte.flat) (by simp) (by rw [List.length_append]; unfold maxLen; omega) (by rw [List.length_append]; omega)
   have HA4 := Lib.hid happ4
   have HB4 := Lib.hid ((HBj.out.trans (hb3.mono (by omega))).trans hb4)
   have HS := Lib.hid (show L ++ packGs true (l.take (j + 1)) = (L ++ packGs true (l.take j)) ++ packG true l[j] from by rw [packGs_succ true l j hlt, List.append_assoc])
   simp only [List.length_append] at hrun
   clear happ3 hb3 happ4 hb4
   go_wp2_with (at_builtin; refine Lib.wpList_append_run _ rfl _ _ _ _ rfl _ _ rfl rfl _ _ hrun ?_)
   go_roundw
   case rel => exact ⟨j + 1, a4, c4, by omega, by go_num, by rw [HS.out, List.length_append, List.length_append], Lib.hid (by rw [HS.out]; exact HA4.out), HB4⟩
   case measure => simp [intOf]; omega
  ·have hjj : l.length = j := by omega
   have HJ := Lib.hid (show l.take j = l from by rw [← hjj, List.take_length])
   rw [HJ.out] at HAj ⊢
   go_wp2_with fail
   go_ret
   exact ⟨a', c', ret_sl (by rw [HE.out]), by rw [HE.out]; exact HAj.out.less (by omega), H0.out.trans (HBj.out.mono (by omega))⟩
theorem po11n (n x : Int) (s : ByteArray) (l : List T) (h0 : ¬ (0 ≤ n ∧ n ≤ 1000000000000000)) : PO (.mk 11 n x s l) := by
 intro a cap B w hr hwf hsz hB
 have HW := Lib.hid hwf
 obtain ⟨hwk, hwn, hwx, hws⟩ := hwf
 simp only [cV, T.k, T.n, T.x, T.s, T.l] at hr hwk hwn hwx hws ⊢
 have hszl : T.szL l ≤ 1048576 := by simp only [T.sz] at hsz; omega
 have hss : s.size ≤ 1048576 := by simp only [T.sz] at hsz; omega
 obtain ⟨hl1, hl2⟩ := hr.len
 have hl0 := T.length_le_szL l
 have HR := Lib.hid hr
 have q1 := (Is.new w (cV (.mk 11 n x s l) a cap) 26).alloc (.cells #[] 5)
 have H0 := Lib.hid (below2 w (.cells (cV (.mk 11 n x s l) a cap) 26) (.cells #[] 5))
 simp only [cV, T.k, T.n, T.x, T.s, T.l] at q1 H0
 obtain ⟨c0, c1, c2', c3, c4⟩ := q1.cells5
 have lg := q1.lt
 have DN := Lib.hid (show decide (0 ≤ n ∧ n ≤ 1000000000000000) = false from decide_eq_false h0)
 have HE := Lib.hid (show packG true (.mk 11 n x s l) = [] from by rw [packG, if_neg (by omega), if_neg (by omega), if_neg (by omega), if_neg (by omega), if_neg (by omega), if_neg (by omega), if_neg (by omega), if_neg (by omega), if_neg (by omega), if_pos rfl, if_neg h0])
 have HA := Lib.hid (AppL.empty (E := EByte) (n := 1) (e := 5) (w.alloc (Obj.cells #[Value.int IntKind.i64 11, Value.int IntKind.i64 n, Value.int IntKind.i64 x, Value.string s, Value.slice a l.length cap] 26)) w.heap.size (by simp))
 clear h0
 go_enter Tryz.func39, Tryz.ntmps39
 go_wp2_with (go_at_call 74; refine (spec_l1InE _ _ _ _).mono ?_; rintro ee w2 ⟨rfl, rfl⟩; rw [DN.out])
 go_ret
 exact ⟨_, 0, ret_sl (by rw [HE.out]; rfl), by rw [HE.out]; have h := HA.out; rw [size_alloc] at h; exact h, H0.out⟩
theorem spec_OpenUp : ∀ t : T, PO t := by
 apply T.ind
 intro k n x s l ih
 by_cases h0 : ¬ (k = 7 ∨ k = 8 ∨ k = 9 ∨ k = 10 ∨ k = 11)
 ·exact po0 k n x s l h0
 ·rcases Classical.not_not.1 h0 with h | h | h | h | h
  ·subst h; exact po7 n x s l
  ·subst h; exact po8 n x s l
  ·subst h; exact po9 n x s l ih
  ·subst h; exact po10 n x s l ih
  ·subst h
   by_cases hn : 0 ≤ n ∧ n ≤ 1000000000000000
   ·exact po11 n x s l ih hn
   ·exact po11n n x s l hn
end Go.Proofs.YtggdenkmohnijaaGreatDoor
