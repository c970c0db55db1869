/- Texts of this proof, merged: LoU. No condition beyond what each theorem states. -/
import Derived.Test.YtggdenkmohnijaaGreatDoorZO34
set_option linter.unusedSimpArgs false
set_option linter.unnecessarySimpa false
namespace Go.Proofs.YtggdenkmohnijaaGreatDoor
open Go.ChangeShapes Go.WideShapes Go.ChangeAt Go.RowKit Go.Joins
set_option linter.unusedVariables false
set_option maxRecDepth 100000
def LO (t : T) : Prop := ∀ (a : Option Addr) (cap B : Nat) (w : World), R w B a cap t.l → Wf t → T.sz t ≤ 1048576 → B ≤ w.heap.size →
      Calls Tryz.prog 40 #[.agg (cV t a cap)] w fun e w' => ∃ a' cap', e = .returned (.slice a' (packG false t).length cap') ∧ AppL EByte 1 5 w' w.heap.size a' cap' (packG false t) [] ∧ Below w.heap.size w w'
theorem wideOk {m n : Int} (hm : 0 ≤ m ∧ m ≤ 7) (hn : 0 ≤ n ∧ n ≤ 1000000000000000) : headOk m n 8 := by
 have := widthD_in n hn.1
 exact ⟨hm, hn, Or.inr (Or.inl ⟨by omega, by omega⟩)⟩
set_option maxHeartbeats 4000000 in
theorem lo0 (k n x : Int) (s : ByteArray) (l : List T) (hk : ¬ (k = 3 ∨ k = 7 ∨ k = 8 ∨ k = 9 ∨ k = 10 ∨ k = 11)) : LO (.mk k n x s l) := by
 intro a cap B w hr hwf hsz hB
 have HW := Lib.hid hwf
 obtain ⟨hwk, hwn, hwx, hws⟩ := hwf
 simp only [cV, T.k, T.n, T.x, T.s, T.l] at hr hwk hwn hwx hws ⊢
 have hszl : T.szL l ≤ 1048576 := by simp only [T.sz] at hsz; omega
 have hss : s.size ≤ 1048576 := by simp only [T.sz] at hsz; omega
 obtain ⟨hl1, hl2⟩ := hr.len
 have hl0 := T.length_le_szL l
 have HR := Lib.hid hr
 have HS := Lib.hid hsz
 have HE := Lib.hid (packG_plain false k n x s l (Or.inr (by omega)) (by omega))
 have q0 := (Is.new w (cV (.mk k n x s l) a cap) 26).alloc (.cells (cH 0 0 8) 56)
 have H0 := Lib.hid (below2 w (.cells (cV (.mk k n x s l) a cap) 26) (.cells (cH 0 0 8) 56))
 simp only [cV, T.k, T.n, T.x, T.s, T.l] at q0 H0
 obtain ⟨c0, c1, c2', c3, c4⟩ := q0.cells5
 have lg := q0.lt
 have g3 : ¬ k = 3 := by omega
 have g7 : ¬ k = 7 := by omega
 have g8 : ¬ k = 8 := by omega
 have g9 : ¬ k = 9 := by omega
 have g10 : ¬ k = 10 := by omega
 have g11 : ¬ k = 11 := by omega
 clear hk hr hsz hwk hwn hwx hws q0
 go_enter Tryz.func40, Tryz.ntmps40
 go_wp2_with fail
 refine (spec_PackTight (.mk k n x s l) a cap B _ (HR.out.below (H0.out.mono hB) (Nat.le_refl _)) HW.out HS.out (by simp; omega)).mono ?_
 rintro e w2 ⟨a2, c2, rfl, happ, hb⟩
 have HA := Lib.hid (happ.less (show w.heap.size ≤ _ by simp; omega))
 have HB := Lib.hid (H0.out.trans (hb.mono (by simp; omega)))
 clear happ hb
 go_wp2_with fail
 go_ret
 exact ⟨a2, c2, ret_sl (by rw [HE.out]), by rw [HE.out]; exact HA.out, HB.out⟩
set_option maxHeartbeats 8000000 in
theorem lo7 (n x : Int) (s : ByteArray) (l : List T) : LO (.mk 7 n x s l) := by
 intro a cap B w hr hwf hsz hB
 have HW := Lib.hid hwf
 obtain ⟨hwk, hwn, hwx, hws⟩ := hwf
 simp only [cV, T.k, T.n, T.x, T.s, T.l] at hr hwk hwn hwx hws ⊢
 have hszl : T.szL l ≤ 1048576 := by simp only [T.sz] at hsz; omega
 have hss : s.size ≤ 1048576 := by simp only [T.sz] at hsz; omega
 obtain ⟨hl1, hl2⟩ := hr.len
 have hl0 := T.length_le_szL l
 have HR := Lib.hid hr
 have HZ := Lib.hid hszl
 obtain ⟨L, hL⟩ : ∃ L, headL 3 (s.size : Int) 8 = L := ⟨_, rfl⟩
 have hLl : L.length ≤ 9 := by rw [← hL]; exact headL_len _ _ _
 have HLU := Lib.hid (show ∀ x ∈ L, U8 x from by rw [← hL]; exact headL_u8 _ _ _)
 have HE := Lib.hid (show packG false (.mk 7 n x s l) = L ++ byteL s from by rw [packG, if_neg (by omega), if_neg (by omega), if_neg (by omega), if_neg (by omega), if_neg (by omega), if_pos rfl, txG, if_neg Bool.false_ne_true, hL])
 have HL := Lib.hid hL
 have HD := Lib.hid (show decide (headOk 3 (s.size : Int) 8) = true from decide_eq_true (wideOk (by omega) (by omega)))
 clear hr hwk hwn hwx hws hsz hL
 go_enter Tryz.func40, Tryz.ntmps40
 go_upto_region 29 with (fail)
 generalize hW : World.alloc (World.alloc w _) _ = W1
 have q1 : Is W1 w.heap.size 26 (cV (.mk 7 n x s l) a cap) := by subst hW; exact (Is.new _ _ _).alloc _
 have q2 : Is W1 (w.heap.size + 1) 56 (cH 3 (s.size : Int) 8) := by subst hW; exact Is.new2 _ _ _ _
 have H0 := Lib.hid (show Below w.heap.size w W1 from by subst hW; exact below2 w _ _)
 have hs0 : W1.heap.size = w.heap.size + 2 := by subst hW; simp only [size_set, size_alloc]
 clear hW
 have Q := Lib.hid q1
 have hl3 : w.heap.size < W1.heap.size := by omega
 obtain ⟨c0, c1, c2⟩ := q2.cells3
 have lg2 : w.heap.size + 1 < W1.heap.size := by omega
 go_wp2_with fail
 refine (spec_HeadOk 3 (s.size : Int) 8 _).mono ?_
 rintro e w2 ⟨rfl, hb2⟩
 rw [HD.out]
 have hs2 := hb2.size
 have q3 := q2.below hb2 lg2
 have HB2 := Lib.hid hb2
 clear c0 c1 c2 q1 q2 hb2 lg2
 obtain ⟨c0, c1, c2⟩ := q3.cells3
 have lg3 := q3.lt
 have q4 := q3.alloc (.cells #[] 5)
 obtain ⟨d0, d1, d2⟩ := q4.cells3
 have lg4 := q4.lt
 go_wp2_with fail
 refine (spec_PutHead0 3 (s.size : Int) 8 _ _ ⟨by omega, by omega⟩).mono ?_
 rw [HL.out]
 rintro e w3 ⟨a3, c3, rfl, happ, hb3⟩
 rw [size_alloc] at hb3 happ
 have HB3 := Lib.hid (HB2.out.trans (((below1 w2 (.cells #[] 5)).trans (hb3.mono (by omega))).mono hs2))
 have hs3 := HB3.out.size
 have hA3 := happ.less (show W1.heap.size ≤ _ by omega)
 clear c0 c1 c2 d0 d1 d2 q3 q4 lg3 lg4 hb3 happ
 obtain ⟨a4, c4, w4, hrun, happ4, hb4, _, _⟩ := run_appStr (P := Tryz.prog) w3 22 9 22 Tryz.underlying22 Tryz.underlying9 info_Byte2 W1.heap.size a3 c3 L HLU.out hA3 hs3 s (by omega)
 have hll : (L ++ byteL s).length = L.length + s.size := by rw [List.length_append, byteL_len]
 rw [hll] at hrun
 have HA := Lib.hid happ4
 have HB := Lib.hid (HB3.out.trans hb4)
 have q5 := Q.out.below HB.out hl3
 simp only [cV, T.k, T.n, T.x, T.s, T.l] at q5
 have lg5 := q5.lt
 obtain ⟨r0, r1, r2, r3, r4⟩ := q5.cells5
 clear q5 happ4 hb4 hA3
 go_wp2_with (at_builtin; refine Lib.wpList_append_run _ rfl _ _ _ _ rfl _ _ rfl rfl _ _ hrun ?_)
 go_ret
 exact ⟨a4, c4, ret_sl (by rw [HE.out, hll]), by rw [HE.out]; exact HA.out.less (by omega), H0.out.trans (HB.out.mono (by omega))⟩
set_option maxHeartbeats 8000000 in
theorem lo8 (n x : Int) (s : ByteArray) (l : List T) : LO (.mk 8 n x s l) := by
 intro a cap B w hr hwf hsz hB
 have HW := Lib.hid hwf
 obtain ⟨hwk, hwn, hwx, hws⟩ := hwf
 simp only [cV, T.k, T.n, T.x, T.s, T.l] at hr hwk hwn hwx hws ⊢
 have hszl : T.szL l ≤ 1048576 := by simp only [T.sz] at hsz; omega
 have hss : s.size ≤ 1048576 := by simp only [T.sz] at hsz; omega
 obtain ⟨hl1, hl2⟩ := hr.len
 have hl0 := T.length_le_szL l
 have HR := Lib.hid hr
 have HZ := Lib.hid hszl
 obtain ⟨L, hL⟩ : ∃ L, headL 2 (s.size : Int) 8 = L := ⟨_, rfl⟩
 have hLl : L.length ≤ 9 := by rw [← hL]; exact headL_len _ _ _
 have HLU := Lib.hid (show ∀ x ∈ L, U8 x from by rw [← hL]; exact headL_u8 _ _ _)
 have HE := Lib.hid (show packG false (.mk 8 n x s l) = L ++ byteL s from by rw [packG, if_neg (by omega), if_neg (by omega), if_neg (by omega), if_neg (by omega), if_neg (by omega), if_neg (by omega), if_pos rfl, txG, if_neg Bool.false_ne_true, hL])
 have HL := Lib.hid hL
 have HD := Lib.hid (show decide (headOk 2 (s.size : Int) 8) = true from decide_eq_true (wideOk (by omega) (by omega)))
 clear hr hwk hwn hwx hws hsz hL
 go_enter Tryz.func40, Tryz.ntmps40
 go_upto_region 29 with (fail)
 generalize hW : World.alloc (World.alloc w _) _ = W1
 have q1 : Is W1 w.heap.size 26 (cV (.mk 8 n x s l) a cap) := by subst hW; exact (Is.new _ _ _).alloc _
 have q2 : Is W1 (w.heap.size + 1) 56 (cH 2 (s.size : Int) 8) := by subst hW; exact Is.new2 _ _ _ _
 have H0 := Lib.hid (show Below w.heap.size w W1 from by subst hW; exact below2 w _ _)
 have hs0 : W1.heap.size = w.heap.size + 2 := by subst hW; simp only [size_set, size_alloc]
 clear hW
 have Q := Lib.hid q1
 have hl3 : w.heap.size < W1.heap.size := by omega
 obtain ⟨c0, c1, c2⟩ := q2.cells3
 have lg2 : w.heap.size + 1 < W1.heap.size := by omega
 go_wp2_with fail
 refine (spec_HeadOk 2 (s.size : Int) 8 _).mono ?_
 rintro e w2 ⟨rfl, hb2⟩
 rw [HD.out]
 have hs2 := hb2.size
 have q3 := q2.below hb2 lg2
 have HB2 := Lib.hid hb2
 clear c0 c1 c2 q1 q2 hb2 lg2
 obtain ⟨c0, c1, c2⟩ := q3.cells3
 have lg3 := q3.lt
 have q4 := q3.alloc (.cells #[] 5)
 obtain ⟨d0, d1, d2⟩ := q4.cells3
 have lg4 := q4.lt
 go_wp2_with fail
 refine (spec_PutHead0 2 (s.size : Int) 8 _ _ ⟨by omega, by omega⟩).mono ?_
 rw [HL.out]
 rintro e w3 ⟨a3, c3, rfl, happ, hb3⟩
 rw [size_alloc] at hb3 happ
 have HB3 := Lib.hid (HB2.out.trans (((below1 w2 (.cells #[] 5)).trans (hb3.mono (by omega))).mono hs2))
 have hs3 := HB3.out.size
 have hA3 := happ.less (show W1.heap.size ≤ _ by omega)
 clear c0 c1 c2 d0 d1 d2 q3 q4 lg3 lg4 hb3 happ
 obtain ⟨a4, c4, w4, hrun, happ4, hb4, _, _⟩ := run_appStr (P := Tryz.prog) w3 22 9 22 Tryz.underlying22 Tryz.underlying9 info_Byte2 W1.heap.size a3 c3 L HLU.out hA3 hs3 s (by omega)
 have hll : (L ++ byteL s).length = L.length + s.size := by rw [List.length_append, byteL_len]
 rw [hll] at hrun
 have HA := Lib.hid happ4
 have HB := Lib.hid (HB3.out.trans hb4)
 have q5 := Q.out.below HB.out hl3
 simp only [cV, T.k, T.n, T.x, T.s, T.l] at q5
 have lg5 := q5.lt
 obtain ⟨r0, r1, r2, r3, r4⟩ := q5.cells5
 clear q5 happ4 hb4 hA3
 go_wp2_with (at_builtin; refine Lib.wpList_append_run _ rfl _ _ _ _ rfl _ _ rfl rfl _ _ hrun ?_)
 go_ret
 exact ⟨a4, c4, ret_sl (by rw [HE.out, hll]), by rw [HE.out]; exact HA.out.less (by omega), H0.out.trans (HB.out.mono (by omega))⟩
set_option maxHeartbeats 8000000 in
theorem lo9 (n x : Int) (s : ByteArray) (l : List T) (IH : ∀ t ∈ l, LO t) : LO (.mk 9 n x s l) := by
 intro a cap B w hr hwf hsz hB
 have HW := Lib.hid hwf
 obtain ⟨hwk, hwn, hwx, hws⟩ := hwf
 simp only [cV, T.k, T.n, T.x, T.s, T.l] at hr hwk hwn hwx hws ⊢
 have hszl : T.szL l ≤ 1048576 := by simp only [T.sz] at hsz; omega
 have hss : s.size ≤ 1048576 := by simp only [T.sz] at hsz; omega
 obtain ⟨hl1, hl2⟩ := hr.len
 have hl0 := T.length_le_szL l
 have HR := Lib.hid hr
 have HI := Lib.hid IH
 have HZ := Lib.hid hszl
 obtain ⟨L, hL⟩ : ∃ L, headL 4 (l.length : Int) 8 = L := ⟨_, rfl⟩
 have hLl : L.length ≤ 9 := by rw [← hL]; exact headL_len _ _ _
 have HLU := Lib.hid (show ∀ x ∈ L, U8 x from by rw [← hL]; exact headL_u8 _ _ _)
 have HE := Lib.hid (show packG false (.mk 9 n x s l) = L ++ packGs false l from by rw [packG, if_neg (by omega), if_neg (by omega), if_neg (by omega), if_neg (by omega), if_neg (by omega), if_neg (by omega), if_neg (by omega), if_pos rfl, elG, if_neg Bool.false_ne_true, hL])
 have HL := Lib.hid hL
 have HD := Lib.hid (show decide (headOk 4 (l.length : Int) 8) = true from decide_eq_true (wideOk (by omega) (by omega)))
 clear hr IH hwk hwn hwx hws hsz hL
 go_enter Tryz.func40, Tryz.ntmps40
 go_upto_region 29 with (fail)
 generalize hW : World.alloc (World.alloc w _) _ = W1
 have q1 : Is W1 w.heap.size 26 (cV (.mk 9 n x s l) a cap) := by subst hW; exact (Is.new _ _ _).alloc _
 have q2 : Is W1 (w.heap.size + 1) 56 (cH 4 (l.length : Int) 8) := by subst hW; exact Is.new2 _ _ _ _
 have H0 := Lib.hid (show Below w.heap.size w W1 from by subst hW; exact below2 w _ _)
 have hs0 : W1.heap.size = w.heap.size + 2 := by subst hW; simp only [size_set, size_alloc]
 clear hW
 have Q := Lib.hid q1
 have hl3 : w.heap.size < W1.heap.size := by omega
 obtain ⟨c0, c1, c2⟩ := q2.cells3
 have lg2 : w.heap.size + 1 < W1.heap.size := by omega
 go_wp2_with fail
 refine (spec_HeadOk 4 (l.length : Int) 8 _).mono ?_
 rintro e w2 ⟨rfl, hb2⟩
 rw [HD.out]
 have hs2 := hb2.size
 have q3 := q2.below hb2 lg2
 have HB2 := Lib.hid hb2
 clear c0 c1 c2 q1 q2 hb2 lg2
 obtain ⟨c0, c1, c2⟩ := q3.cells3
 have lg3 := q3.lt
 have q4 := q3.alloc (.cells #[] 5)
 obtain ⟨d0, d1, d2⟩ := q4.cells3
 have lg4 := q4.lt
 go_wp2_with fail
 refine (spec_PutHead0 4 (l.length : Int) 8 _ _ ⟨by omega, by omega⟩).mono ?_
 rw [HL.out]
 rintro e w3 ⟨a3, c3, rfl, happ, hb3⟩
 rw [size_alloc] at hb3 happ
 have HB3 := Lib.hid (HB2.out.trans (((below1 w2 (.cells #[] 5)).trans (hb3.mono (by omega))).mono hs2))
 have hs3 := HB3.out.size
 have hA3 := happ.less (show W1.heap.size ≤ _ by omega)
 clear c0 c1 c2 d0 d1 d2 q3 q4 lg3 lg4 hb3 happ
 obtain ⟨a4, c4, w4, hrun, happ4, hb4, _, _⟩ := run_appStr (P := Tryz.prog) w3 22 9 22 Tryz.underlying22 Tryz.underlying9 info_Byte2 W1.heap.size a3 c3 L HLU.out hA3 hs3 ⟨#[]⟩ (by have : (⟨#[]⟩ : ByteArray).size = 0 := rfl; omega)
 rw [show byteL ⟨#[]⟩ = [] from rfl, List.append_nil] at hrun happ4
 have HA := Lib.hid happ4
 have HB := Lib.hid (HB3.out.trans hb4)
 have q5 := Q.out.below HB.out hl3
 simp only [cV, T.k, T.n, T.x, T.s, T.l] at q5
 have lg5 := q5.lt
 obtain ⟨r0, r1, r2, r3, r4⟩ := q5.cells5
 clear q5 happ4 hb4 hA3
 go_wp2_with (at_builtin; refine Lib.wpList_append_run _ rfl _ _ _ _ rfl _ _ rfl rfl _ _ hrun ?_)
 go_loopw [5, 6] (fun q i wr => ∃ (j : Nat) (a' : Option Addr) (c' : Nat), j ≤ l.length ∧ i = .int .i64 j ∧ q = .slice a' (L ++ packGs false (l.take j)).length c' ∧ Hid (AppL EByte 1 5 wr W1.heap.size a' c' (L ++ packGs false (l.take j)) []) ∧ Hid (Below W1.heap.size W1 wr)) (fun _ i _ => l.length - (intOf i).toNat)
 case atStart => exact ⟨0, a4, c4, Nat.zero_le _, rfl, by simp [packGs], by simpa [packGs] using HA, HB⟩
 case round =>
  clear HA HB HB2 HB3 hs2 hs3 hrun r0 r1 r2 r3 r4 lg5
  obtain ⟨j, a', c', hj, rfl, rfl, HAj, HBj⟩ := hrel
  have hbs := HBj.out.size
  have qr := Q.out.below HBj.out hl3
  simp only [cV, T.k, T.n, T.x, T.s, T.l] at qr
  have lgr := qr.lt
  obtain ⟨r0, r1, r2, r3, r4⟩ := qr.cells5
  clear qr
  by_cases hlt : j < l.length
  ·obtain ⟨bb, o, a3, cap3, rfl, hbl2, d0, d1, d2, d3, d4, hwf, hq⟩ := (HR.out.below (H0.out.trans (HBj.out.mono (by omega))) hB).get j hlt
   have hszj := T.sz_get l j hlt
   have hlb : bb < wr.heap.size := by omega
   have HWF := Lib.hid hwf
   have HQ := Lib.hid hq
   have hlen2 : (packGs false (l.take j)).length ≤ 20971520 := by have := packGs_len false (l.take j); have := T.szL_take_le l j; omega
   have hlen3 : (packG false l[j]).length ≤ 20971539 := by have := packG_len false l[j]; omega
   clear hwf hq
   go_wp2_with fail
   refine (HI.out l[j] (List.getElem_mem hlt) a3 cap3 B wr HQ.out HWF.out (by have := HZ.out; omega) (by omega)).mono ?_
   rintro e w3 ⟨a5, c5, rfl, happ3, hb3⟩
   have hs3 := hb3.size
   obtain ⟨a4, c4, w4, hrun, happ4, hb4, _, _, _⟩ := run_appL (P := Tryz.prog) w3 EByte.elem 22 22 (.int .u8 0) 1 Tryz.underlying22 info_Byte2 rfl W1.heap.size a' c' (L ++ packGs false (l.take j)) [] (HAj.out.agree EByte.elem (fun f hf => hb3.block f hf) (by omega)) (by omega) HAj.out.cap.1 a5 c5 (packG false l[j]) [] ((happ3.rd hs3).srcs EByte.flat) (by simp) (by rw [List.length_append]; unfold maxLen; omega) (by rw [List.length_append]; omega)
   have HA4 := Lib.hid happ4
   have HB4 := Lib.hid ((HBj.out.trans (hb3.mono (by omega))).trans hb4)
   have HS := Lib.hid (show L ++ packGs false (l.take (j + 1)) = (L ++ packGs false (l.take j)) ++ packG false l[j] from by rw [packGs_succ false l j hlt, List.append_assoc])
   simp only [List.length_append] at hrun
   clear happ3 hb3 happ4 hb4
   go_wp2_with (at_builtin; refine Lib.wpList_append_run _ rfl _ _ _ _ rfl _ _ rfl rfl _ _ hrun ?_)
   go_roundw
   case rel => exact ⟨j + 1, a4, c4, by omega, by go_num, by rw [HS.out, List.length_append, List.length_append], Lib.hid (by rw [HS.out]; exact HA4.out), HB4⟩
   case measure => simp [intOf]; omega
  ·have hjj : l.length = j := by omega
   have HJ := Lib.hid (show l.take j = l from by rw [← hjj, List.take_length])
   rw [HJ.out] at HAj ⊢
   go_wp2_with fail
   go_ret
   exact ⟨a', c', ret_sl (by rw [HE.out]), by rw [HE.out]; exact HAj.out.less (by omega), H0.out.trans (HBj.out.mono (by omega))⟩
set_option maxHeartbeats 8000000 in
theorem lo10 (n x : Int) (s : ByteArray) (l : List T) (IH : ∀ t ∈ l, LO t) : LO (.mk 10 n x s l) := by
 intro a cap B w hr hwf hsz hB
 have HW := Lib.hid hwf
 obtain ⟨hwk, hwn, hwx, hws⟩ := hwf
 simp only [cV, T.k, T.n, T.x, T.s, T.l] at hr hwk hwn hwx hws ⊢
 have hszl : T.szL l ≤ 1048576 := by simp only [T.sz] at hsz; omega
 have hss : s.size ≤ 1048576 := by simp only [T.sz] at hsz; omega
 obtain ⟨hl1, hl2⟩ := hr.len
 have hl0 := T.length_le_szL l
 have HR := Lib.hid hr
 have HI := Lib.hid IH
 have HZ := Lib.hid hszl
 obtain ⟨L, hL⟩ : ∃ L, headL 5 ((l.length : Int) / 2) 8 = L := ⟨_, rfl⟩
 have hLl : L.length ≤ 9 := by rw [← hL]; exact headL_len _ _ _
 have HLU := Lib.hid (show ∀ x ∈ L, U8 x from by rw [← hL]; exact headL_u8 _ _ _)
 have HE := Lib.hid (show packG false (.mk 10 n x s l) = L ++ packGs false l from by rw [packG, if_neg (by omega), if_neg (by omega), if_neg (by omega), if_neg (by omega), if_neg (by omega), if_neg (by omega), if_neg (by omega), if_neg (by omega), if_pos rfl, elG, if_neg Bool.false_ne_true, show ((l.length / 2 : Nat) : Int) = (l.length : Int) / 2 from by omega, hL])
 have HL := Lib.hid hL
 have HD := Lib.hid (show decide (headOk 5 ((l.length : Int) / 2) 8) = true from decide_eq_true (wideOk (by omega) (by omega)))
 have hwq : IntKind.i64.wrap ((l.length : Int) / 2) = ((l.length / 2 : Nat) : Int) := by rw [show (l.length : Int) / 2 = ((l.length / 2 : Nat) : Int) from by omega, Go.IntWalk.i64_left]; exact Go.IntWalk.wrap64_in _ ⟨by omega, by omega⟩
 have hqt : Int.tdiv (l.length : Int) 2 = ((l.length / 2 : Nat) : Int) := by rw [Int.tdiv_eq_ediv_of_nonneg (by omega)]; omega
 clear hr IH hwk hwn hwx hws hsz hL
 go_enter Tryz.func40, Tryz.ntmps40
 go_upto_region 29 with (fail)
 generalize hW : World.alloc (World.alloc w _) _ = W1
 have q1 : Is W1 w.heap.size 26 (cV (.mk 10 n x s l) a cap) := by subst hW; exact (Is.new _ _ _).alloc _
 have q2 : Is W1 (w.heap.size + 1) 56 (cH 5 ((l.length : Int) / 2) 8) := by subst hW; exact Is.new2 _ _ _ _
 have H0 := Lib.hid (show Below w.heap.size w W1 from by subst hW; exact below2 w _ _)
 have hs0 : W1.heap.size = w.heap.size + 2 := by subst hW; simp only [size_set, size_alloc]
 clear hW
 have Q := Lib.hid q1
 have hl3 : w.heap.size < W1.heap.size := by omega
 obtain ⟨c0, c1, c2⟩ := q2.cells3
 have lg2 : w.heap.size + 1 < W1.heap.size := by omega
 go_wp2_with fail
 refine (spec_HeadOk 5 ((l.length : Int) / 2) 8 _).mono ?_
 rintro e w2 ⟨rfl, hb2⟩
 rw [HD.out]
 have hs2 := hb2.size
 have q3 := q2.below hb2 lg2
 have HB2 := Lib.hid hb2
 clear c0 c1 c2 q1 q2 hb2 lg2
 obtain ⟨c0, c1, c2⟩ := q3.cells3
 have lg3 := q3.lt
 have q4 := q3.alloc (.cells #[] 5)
 obtain ⟨d0, d1, d2⟩ := q4.cells3
 have lg4 := q4.lt
 go_wp2_with fail
 refine (spec_PutHead0 5 ((l.length : Int) / 2) 8 _ _ ⟨by omega, by omega⟩).mono ?_
 rw [HL.out]
 rintro e w3 ⟨a3, c3, rfl, happ, hb3⟩
 rw [size_alloc] at hb3 happ
 have HB3 := Lib.hid (HB2.out.trans (((below1 w2 (.cells #[] 5)).trans (hb3.mono (by omega))).mono hs2))
 have hs3 := HB3.out.size
 have hA3 := happ.less (show W1.heap.size ≤ _ by omega)
 clear c0 c1 c2 d0 d1 d2 q3 q4 lg3 lg4 hb3 happ
 obtain ⟨a4, c4, w4, hrun, happ4, hb4, _, _⟩ := run_appStr (P := Tryz.prog) w3 22 9 22 Tryz.underlying22 Tryz.underlying9 info_Byte2 W1.heap.size a3 c3 L HLU.out hA3 hs3 ⟨#[]⟩ (by have : (⟨#[]⟩ : ByteArray).size = 0 := rfl; omega)
 rw [show byteL ⟨#[]⟩ = [] from rfl, List.append_nil] at hrun happ4
 have HA := Lib.hid happ4
 have HB := Lib.hid (HB3.out.trans hb4)
 have q5 := Q.out.below HB.out hl3
 simp only [cV, T.k, T.n, T.x, T.s, T.l] at q5
 have lg5 := q5.lt
 obtain ⟨r0, r1, r2, r3, r4⟩ := q5.cells5
 clear q5 happ4 hb4 hA3
 go_wp2_with (at_builtin; refine Lib.wpList_append_run _ rfl _ _ _ _ rfl _ _ rfl rfl _ _ hrun ?_)
 go_loopw [5, 6] (fun q i wr => ∃ (j : Nat) (a' : Option Addr) (c' : Nat), j ≤ l.length ∧ i = .int .i64 j ∧ q = .slice a' (L ++ packGs false (l.take j)).length c' ∧ Hid (AppL EByte 1 5 wr W1.heap.size a' c' (L ++ packGs false (l.take j)) []) ∧ Hid (Below W1.heap.size W1 wr)) (fun _ i _ => l.length - (intOf i).toNat)
 case atStart => exact ⟨0, a4, c4, Nat.zero_le _, rfl, by simp [packGs], by simpa [packGs] using HA, HB⟩
 case round =>
  clear HA HB HB2 HB3 hs2 hs3 hrun r0 r1 r2 r3 r4 lg5
  obtain ⟨j, a', c', hj, rfl, rfl, HAj, HBj⟩ := hrel
  have hbs := HBj.out.size
  have qr := Q.out.below HBj.out hl3
  simp only [cV, T.k, T.n, T.x, T.s, T.l] at qr
  have lgr := qr.lt
  obtain ⟨r0, r1, r2, r3, r4⟩ := qr.cells5
  clear qr
  by_cases hlt : j < l.length
  ·obtain ⟨bb, o, a3, cap3, rfl, hbl2, d0, d1, d2, d3, d4, hwf, hq⟩ := (HR.out.below (H0.out.trans (HBj.out.mono (by omega))) hB).get j hlt
   have hszj := T.sz_get l j hlt
   have hlb : bb < wr.heap.size := by omega
   have HWF := Lib.hid hwf
   have HQ := Lib.hid hq
   have hlen2 : (packGs false (l.take j)).length ≤ 20971520 := by have := packGs_len false (l.take j); have := T.szL_take_le l j; omega
   have hlen3 : (packG false l[j]).length ≤ 20971539 := by have := packG_len false l[j]; omega
   clear hwf hq
   go_wp2_with fail
   refine (HI.out l[j] (List.getElem_mem hlt) a3 cap3 B wr HQ.out HWF.out (by have := HZ.out; omega) (by omega)).mono ?_
   rintro e w3 ⟨a5, c5, rfl, happ3, hb3⟩
   have hs3 := hb3.size
   obtain ⟨a4, c4, w4, hrun, happ4, hb4, _, _, _⟩ := run_appL (P := Tryz.prog) w3 EByte.elem 22 22 (.int .u8 0) 1 Tryz.underlying22 info_Byte2 rfl W1.heap.size a' c' (L ++ packGs false (l.take j)) [] (HAj.out.agree EByte.elem (fun f hf => hb3.block f hf) (by omega)) (by omega) HAj.out.cap.1 a5 c5 (packG false l[j]) [] ((happ3.rd hs3).srcs EByte.flat) (by simp) (by rw [List.length_append]; unfold maxLen; omega) (by rw [List.length_append]; omega)
   have HA4 := Lib.hid happ4
   have HB4 := Lib.hid ((HBj.out.trans (hb3.mono (by omega))).trans hb4)
   have HS := Lib.hid (show L ++ packGs false (l.take (j + 1)) = (L ++ packGs false (l.take j)) ++ packG false l[j] from by rw [packGs_succ false l j hlt, List.append_assoc])
   simp only [List.length_append] at hrun
   clear happ3 hb3 happ4 hb4
   go_wp2_with (at_builtin; refine Lib.wpList_append_run _ rfl _ _ _ _ rfl _ _ rfl rfl _ _ hrun ?_)
   go_roundw
   case rel => exact ⟨j + 1, a4, c4, by omega, by go_num, by rw [HS.out, List.length_append, List.length_append], Lib.hid (by rw [HS.out]; exact HA4.out), HB4⟩
   case measure => simp [intOf]; omega
  ·have hjj : l.length = j := by omega
   have HJ := Lib.hid (show l.take j = l from by rw [← hjj, List.take_length])
   rw [HJ.out] at HAj ⊢
   go_wp2_with fail
   go_ret
   exact ⟨a', c', ret_sl (by rw [HE.out]), by rw [HE.out]; exact HAj.out.less (by omega), H0.out.trans (HBj.out.mono (by omega))⟩
set_option maxHeartbeats 8000000 in
theorem lo11 (n x : Int) (s : ByteArray) (l : List T) (IH : ∀ t ∈ l, LO t) (h0 : 0 ≤ n ∧ n ≤ 1000000000000000) : LO (.mk 11 n x s l) := by
 intro a cap B w hr hwf hsz hB
 have HW := Lib.hid hwf
 obtain ⟨hwk, hwn, hwx, hws⟩ := hwf
 simp only [cV, T.k, T.n, T.x, T.s, T.l] at hr hwk hwn hwx hws ⊢
 have hszl : T.szL l ≤ 1048576 := by simp only [T.sz] at hsz; omega
 have hss : s.size ≤ 1048576 := by simp only [T.sz] at hsz; omega
 obtain ⟨hl1, hl2⟩ := hr.len
 have hl0 := T.length_le_szL l
 have HR := Lib.hid hr
 have HI := Lib.hid IH
 have HZ := Lib.hid hszl
 obtain ⟨L, hL⟩ : ∃ L, headL 6 n 8 = L := ⟨_, rfl⟩
 have hLl : L.length ≤ 9 := by rw [← hL]; exact headL_len _ _ _
 have HLU := Lib.hid (show ∀ x ∈ L, U8 x from by rw [← hL]; exact headL_u8 _ _ _)
 have HE := Lib.hid (show packG false (.mk 11 n x s l) = L ++ packGs false l from by rw [packG, if_neg (by omega), if_neg (by omega), if_neg (by omega), if_neg (by omega), if_neg (by omega), if_neg (by omega), if_neg (by omega), if_neg (by omega), if_neg (by omega), if_pos rfl, if_pos h0, nuG, if_neg Bool.false_ne_true, hL])
 have HL := Lib.hid hL
 have HD := Lib.hid (show decide (headOk 6 n 8) = true from decide_eq_true (wideOk (by omega) h0))
 clear hr IH hwk hwn hwx hws hsz hL
 go_enter Tryz.func40, Tryz.ntmps40
 go_upto_region 29 with (fail)
 generalize hW : World.alloc (World.alloc w _) _ = W1
 have q1 : Is W1 w.heap.size 26 (cV (.mk 11 n x s l) a cap) := by subst hW; exact (Is.new _ _ _).alloc _
 have q2 : Is W1 (w.heap.size + 1) 56 (cH 6 n 8) := by subst hW; exact Is.new2 _ _ _ _
 have H0 := Lib.hid (show Below w.heap.size w W1 from by subst hW; exact below2 w _ _)
 have hs0 : W1.heap.size = w.heap.size + 2 := by subst hW; simp only [size_set, size_alloc]
 clear hW
 have Q := Lib.hid q1
 have hl3 : w.heap.size < W1.heap.size := by omega
 obtain ⟨c0, c1, c2⟩ := q2.cells3
 have lg2 : w.heap.size + 1 < W1.heap.size := by omega
 go_wp2_with fail
 refine (spec_HeadOk 6 n 8 _).mono ?_
 rintro e w2 ⟨rfl, hb2⟩
 rw [HD.out]
 have hs2 := hb2.size
 have q3 := q2.below hb2 lg2
 have HB2 := Lib.hid hb2
 clear c0 c1 c2 q1 q2 hb2 lg2
 obtain ⟨c0, c1, c2⟩ := q3.cells3
 have lg3 := q3.lt
 have q4 := q3.alloc (.cells #[] 5)
 obtain ⟨d0, d1, d2⟩ := q4.cells3
 have lg4 := q4.lt
 go_wp2_with fail
 refine (spec_PutHead0 6 n 8 _ _ ⟨by omega, by omega⟩).mono ?_
 rw [HL.out]
 rintro e w3 ⟨a3, c3, rfl, happ, hb3⟩
 rw [size_alloc] at hb3 happ
 have HB3 := Lib.hid (HB2.out.trans (((below1 w2 (.cells #[] 5)).trans (hb3.mono (by omega))).mono hs2))
 have hs3 := HB3.out.size
 have hA3 := happ.less (show W1.heap.size ≤ _ by omega)
 clear c0 c1 c2 d0 d1 d2 q3 q4 lg3 lg4 hb3 happ
 obtain ⟨a4, c4, w4, hrun, happ4, hb4, _, _⟩ := run_appStr (P := Tryz.prog) w3 22 9 22 Tryz.underlying22 Tryz.underlying9 info_Byte2 W1.heap.size a3 c3 L HLU.out hA3 hs3 ⟨#[]⟩ (by have : (⟨#[]⟩ : ByteArray).size = 0 := rfl; omega)
 rw [show byteL ⟨#[]⟩ = [] from rfl, List.append_nil] at hrun happ4
 have HA := Lib.hid happ4
 have HB := Lib.hid (HB3.out.trans hb4)
 have q5 := Q.out.below HB.out hl3
 simp only [cV, T.k, T.n, T.x, T.s, T.l] at q5
 have lg5 := q5.lt
 obtain ⟨r0, r1, r2, r3, r4⟩ := q5.cells5
 clear q5 happ4 hb4 hA3
 go_wp2_with (at_builtin; refine Lib.wpList_append_run _ rfl _ _ _ _ rfl _ _ rfl rfl _ _ hrun ?_)
 go_loopw [5, 6] (fun q i wr => ∃ (j : Nat) (a' : Option Addr) (c' : Nat), j ≤ l.length ∧ i = .int .i64 j ∧ q = .slice a' (L ++ packGs false (l.take j)).length c' ∧ Hid (AppL EByte 1 5 wr W1.heap.size a' c' (L ++ packGs false (l.take j)) []) ∧ Hid (Below W1.heap.size W1 wr)) (fun _ i _ => l.length - (intOf i).toNat)
 case atStart => exact ⟨0, a4, c4, Nat.zero_le _, rfl, by simp [packGs], by simpa [packGs] using HA, HB⟩
 case round =>
  clear HA HB HB2 HB3 hs2 hs3 hrun r0 r1 r2 r3 r4 lg5
  obtain ⟨j, a', c', hj, rfl, rfl, HAj, HBj⟩ := hrel
  have hbs := HBj.out.size
  have qr := Q.out.below HBj.out hl3
  simp only [cV, T.k, T.n, T.x, T.s, T.l] at qr
  have lgr := qr.lt
  obtain ⟨r0, r1, r2, r3, r4⟩ := qr.cells5
  clear qr
  by_cases hlt : j < l.length
  ·obtain ⟨bb, o, a3, cap3, rfl, hbl2, d0, d1, d2, d3, d4, hwf, hq⟩ := (HR.out.below (H0.out.trans (HBj.out.mono (by omega))) hB).get j hlt
   have hszj := T.sz_get l j hlt
   have hlb : bb < wr.heap.size := by omega
   have HWF := Lib.hid hwf
   have HQ := Lib.hid hq
   have hlen2 : (packGs false (l.take j)).length ≤ 20971520 := by have := packGs_len false (l.take j); have := T.szL_take_le l j; omega
   have hlen3 : (packG false l[j]).length ≤ 20971539 := by have := packG_len false l[j]; omega
   clear hwf hq
   go_wp2_with fail
   refine (HI.out l[j] (List.getElem_mem hlt) a3 cap3 B wr HQ.out HWF.out (by have := HZ.out; omega) (by omega)).mono ?_
   rintro e w3 ⟨a5, c5, rfl, happ3, hb3⟩
   have hs3 := hb3.size
   obtain ⟨a4, c4, w4, hrun, happ4, hb4, _, _, _⟩ := run_appL (P := Tryz.prog) w3 EByte.elem 22 22 (.int .u8 0) 1 Tryz.underlying22 info_Byte2 rfl W1.heap.size a' c' (L ++ packGs false (l.take j)) [] (HAj.out.agree EByte.elem (fun f hf => hb3.block f hf) (by omega)) (by omega) HAj.out.cap.1 a5 c5 (packG false l[j]) [] ((happ3.rd hs3).srcs EByte.flat) (by simp) (by rw [List.length_append]; unfold maxLen; omega) (by rw [List.length_append]; omega)
   have HA4 := Lib.hid happ4
   have HB4 := Lib.hid ((HBj.out.trans (hb3.mono (by omega))).trans hb4)
   have HS := Lib.hid (show L ++ packGs false (l.take (j + 1)) = (L ++ packGs false (l.take j)) ++ packG false l[j] from by rw [packGs_succ false l j hlt, List.append_assoc])
   simp only [List.length_append] at hrun
   clear happ3 hb3 happ4 hb4
   go_wp2_with (at_builtin; refine Lib.wpList_append_run _ rfl _ _ _ _ rfl _ _ rfl rfl _ _ hrun ?_)
   go_roundw
   case rel => exact ⟨j + 1, a4, c4, by omega, by go_num, by rw [HS.out, List.length_append, List.length_append], Lib.hid (by rw [HS.out]; exact HA4.out), HB4⟩
   case measure => simp [intOf]; omega
  ·have hjj : l.length = j := by omega
   have HJ := Lib.hid (show l.take j = l from by rw [← hjj, List.take_length])
   rw [HJ.out] at HAj ⊢
   go_wp2_with fail
   go_ret
   exact ⟨a', c', ret_sl (by rw [HE.out]), by rw [HE.out]; exact HAj.out.less (by omega), H0.out.trans (HBj.out.mono (by omega))⟩
set_option maxHeartbeats 8000000 in
theorem lo3 (n x : Int) (s : ByteArray) (l : List T) (h0 : -1000000000000000 ≤ n ∧ n ≤ 1000000000000000) (h1 : ¬ n < 0) : LO (.mk 3 n x s l) := by
 intro a cap B w hr hwf hsz hB
 have HW := Lib.hid hwf
 obtain ⟨hwk, hwn, hwx, hws⟩ := hwf
 simp only [cV, T.k, T.n, T.x, T.s, T.l] at hr hwk hwn hwx hws ⊢
 have hszl : T.szL l ≤ 1048576 := by simp only [T.sz] at hsz; omega
 have hss : s.size ≤ 1048576 := by simp only [T.sz] at hsz; omega
 obtain ⟨hl1, hl2⟩ := hr.len
 have hl0 := T.length_le_szL l
 have HR := Lib.hid hr
 have HZ := Lib.hid hszl
 obtain ⟨L, hL⟩ : ∃ L, headL 0 n 8 = L := ⟨_, rfl⟩
 have hLl : L.length ≤ 9 := by rw [← hL]; exact headL_len _ _ _
 have HLU := Lib.hid (show ∀ x ∈ L, U8 x from by rw [← hL]; exact headL_u8 _ _ _)
 have HE := Lib.hid (show packG false (.mk 3 n x s l) = L from by rw [packG, if_neg (by omega), if_neg (by omega), if_pos rfl, if_pos h0, if_neg (by omega), nuG, if_neg Bool.false_ne_true, hL])
 have HL := Lib.hid hL
 have HD := Lib.hid (show decide (headOk 0 n 8) = true from decide_eq_true (wideOk (by omega) (by omega)))
 have DN := Lib.hid (show decide (-1000000000000000 ≤ n ∧ n ≤ 1000000000000000) = true from decide_eq_true h0)
 have q0 := (Is.new w (cV (.mk 3 n x s l) a cap) 26).alloc (.cells (cH 0 0 8) 56)
 simp only [cV, T.k, T.n, T.x, T.s, T.l] at q0
 obtain ⟨z0, z1, z2, z3, z4⟩ := q0.cells5
 have lg := q0.lt
 clear hr hwk hwn hwx hws hsz hL
 go_enter Tryz.func40, Tryz.ntmps40
 go_upto_region 29 with (go_at_call 74; refine (spec_l1InE _ _ _ _).mono ?_; rintro ee w2 ⟨rfl, rfl⟩; rw [DN.out])
 clear q0 z0 z1 z2 z3 z4 lg
 generalize hW : World.alloc (World.alloc w _) _ = W1
 have q1 : Is W1 w.heap.size 26 (cV (.mk 3 n x s l) a cap) := by subst hW; exact (Is.new _ _ _).alloc _
 have q2 : Is W1 (w.heap.size + 1) 56 (cH 0 n 8) := by subst hW; exact Is.new2 _ _ _ _
 have H0 := Lib.hid (show Below w.heap.size w W1 from by subst hW; exact below2 w _ _)
 have hs0 : W1.heap.size = w.heap.size + 2 := by subst hW; simp only [size_set, size_alloc]
 clear hW
 have Q := Lib.hid q1
 have hl3 : w.heap.size < W1.heap.size := by omega
 obtain ⟨c0, c1, c2⟩ := q2.cells3
 have lg2 : w.heap.size + 1 < W1.heap.size := by omega
 go_wp2_with fail
 refine (spec_HeadOk 0 n 8 _).mono ?_
 rintro e w2 ⟨rfl, hb2⟩
 rw [HD.out]
 have hs2 := hb2.size
 have q3 := q2.below hb2 lg2
 have HB2 := Lib.hid hb2
 clear c0 c1 c2 q1 q2 hb2 lg2
 obtain ⟨c0, c1, c2⟩ := q3.cells3
 have lg3 := q3.lt
 have q4 := q3.alloc (.cells #[] 5)
 obtain ⟨d0, d1, d2⟩ := q4.cells3
 have lg4 := q4.lt
 go_wp2_with fail
 refine (spec_PutHead0 0 n 8 _ _ ⟨by omega, by omega⟩).mono ?_
 rw [HL.out]
 rintro e w3 ⟨a3, c3, rfl, happ, hb3⟩
 rw [size_alloc] at hb3 happ
 have HB3 := Lib.hid (HB2.out.trans (((below1 w2 (.cells #[] 5)).trans (hb3.mono (by omega))).mono hs2))
 have hs3 := HB3.out.size
 have hA3 := happ.less (show W1.heap.size ≤ _ by omega)
 clear c0 c1 c2 d0 d1 d2 q3 q4 lg3 lg4 hb3 happ
 obtain ⟨a4, c4, w4, hrun, happ4, hb4, _, _⟩ := run_appStr (P := Tryz.prog) w3 22 9 22 Tryz.underlying22 Tryz.underlying9 info_Byte2 W1.heap.size a3 c3 L HLU.out hA3 hs3 ⟨#[]⟩ (by have : (⟨#[]⟩ : ByteArray).size = 0 := rfl; omega)
 rw [show byteL ⟨#[]⟩ = [] from rfl, List.append_nil] at hrun happ4
 have HA := Lib.hid happ4
 have HB := Lib.hid (HB3.out.trans hb4)
 have q5 := Q.out.below HB.out hl3
 simp only [cV, T.k, T.n, T.x, T.s, T.l] at q5
 have lg5 := q5.lt
 obtain ⟨r0, r1, r2, r3, r4⟩ := q5.cells5
 clear q5 happ4 hb4 hA3
 go_wp2_with (at_builtin; refine Lib.wpList_append_run _ rfl _ _ _ _ rfl _ _ rfl rfl _ _ hrun ?_)
 go_ret
 exact ⟨a4, c4, ret_sl (by rw [HE.out]), by rw [HE.out]; exact HA.out.less (by omega), H0.out.trans (HB.out.mono (by omega))⟩
set_option maxHeartbeats 8000000 in
theorem lo3n (n x : Int) (s : ByteArray) (l : List T) (h0 : -1000000000000000 ≤ n ∧ n ≤ 1000000000000000) (h1 : n < 0) : LO (.mk 3 n x s l) := by
 intro a cap B w hr hwf hsz hB
 have HW := Lib.hid hwf
 obtain ⟨hwk, hwn, hwx, hws⟩ := hwf
 simp only [cV, T.k, T.n, T.x, T.s, T.l] at hr hwk hwn hwx hws ⊢
 have hszl : T.szL l ≤ 1048576 := by simp only [T.sz] at hsz; omega
 have hss : s.size ≤ 1048576 := by simp only [T.sz] at hsz; omega
 obtain ⟨hl1, hl2⟩ := hr.len
 have hl0 := T.length_le_szL l
 have HR := Lib.hid hr
 have HZ := Lib.hid hszl
 obtain ⟨L, hL⟩ : ∃ L, headL 1 (-1 - n) 8 = L := ⟨_, rfl⟩
 have hLl : L.length ≤ 9 := by rw [← hL]; exact headL_len _ _ _
 have HLU := Lib.hid (show ∀ x ∈ L, U8 x from by rw [← hL]; exact headL_u8 _ _ _)
 have HE := Lib.hid (show packG false (.mk 3 n x s l) = L from by rw [packG, if_neg (by omega), if_neg (by omega), if_pos rfl, if_pos h0, if_pos h1, nuG, if_neg Bool.false_ne_true, hL])
 have HL := Lib.hid hL
 have HD := Lib.hid (show decide (headOk 1 (-1 - n) 8) = true from decide_eq_true (wideOk (by omega) (by omega)))
 have DN := Lib.hid (show decide (-1000000000000000 ≤ n ∧ n ≤ 1000000000000000) = true from decide_eq_true h0)
 have q0 := (Is.new w (cV (.mk 3 n x s l) a cap) 26).alloc (.cells (cH 0 0 8) 56)
 simp only [cV, T.k, T.n, T.x, T.s, T.l] at q0
 obtain ⟨z0, z1, z2, z3, z4⟩ := q0.cells5
 have lg := q0.lt
 have hwn1 : IntKind.i64.wrap (-1 - n) = -1 - n := by rw [Go.IntWalk.i64_left]; exact Go.IntWalk.wrap64_in _ ⟨by omega, by omega⟩
 clear hr hwk hwn hwx hws hsz hL
 go_enter Tryz.func40, Tryz.ntmps40
 go_upto_region 29 with (go_at_call 74; refine (spec_l1InE _ _ _ _).mono ?_; rintro ee w2 ⟨rfl, rfl⟩; rw [DN.out])
 clear q0 z0 z1 z2 z3 z4 lg
 generalize hW : World.alloc (World.alloc w _) _ = W1
 have q1 : Is W1 w.heap.size 26 (cV (.mk 3 n x s l) a cap) := by subst hW; exact (Is.new _ _ _).alloc _
 have q2 : Is W1 (w.heap.size + 1) 56 (cH 1 (-1 - n) 8) := by subst hW; exact Is.new2 _ _ _ _
 have H0 := Lib.hid (show Below w.heap.size w W1 from by subst hW; exact below2 w _ _)
 have hs0 : W1.heap.size = w.heap.size + 2 := by subst hW; simp only [size_set, size_alloc]
 clear hW
 have Q := Lib.hid q1
 have hl3 : w.heap.size < W1.heap.size := by omega
 obtain ⟨c0, c1, c2⟩ := q2.cells3
 have lg2 : w.heap.size + 1 < W1.heap.size := by omega
 go_wp2_with fail
 refine (spec_HeadOk 1 (-1 - n) 8 _).mono ?_
 rintro e w2 ⟨rfl, hb2⟩
 rw [HD.out]
 have hs2 := hb2.size
 have q3 := q2.below hb2 lg2
 have HB2 := Lib.hid hb2
 clear c0 c1 c2 q1 q2 hb2 lg2
 obtain ⟨c0, c1, c2⟩ := q3.cells3
 have lg3 := q3.lt
 have q4 := q3.alloc (.cells #[] 5)
 obtain ⟨d0, d1, d2⟩ := q4.cells3
 have lg4 := q4.lt
 go_wp2_with fail
 refine (spec_PutHead0 1 (-1 - n) 8 _ _ ⟨by omega, by omega⟩).mono ?_
 rw [HL.out]
 rintro e w3 ⟨a3, c3, rfl, happ, hb3⟩
 rw [size_alloc] at hb3 happ
 have HB3 := Lib.hid (HB2.out.trans (((below1 w2 (.cells #[] 5)).trans (hb3.mono (by omega))).mono hs2))
 have hs3 := HB3.out.size
 have hA3 := happ.less (show W1.heap.size ≤ _ by omega)
 clear c0 c1 c2 d0 d1 d2 q3 q4 lg3 lg4 hb3 happ
 obtain ⟨a4, c4, w4, hrun, happ4, hb4, _, _⟩ := run_appStr (P := Tryz.prog) w3 22 9 22 Tryz.underlying22 Tryz.underlying9 info_Byte2 W1.heap.size a3 c3 L HLU.out hA3 hs3 ⟨#[]⟩ (by have : (⟨#[]⟩ : ByteArray).size = 0 := rfl; omega)
 rw [show byteL ⟨#[]⟩ = [] from rfl, List.append_nil] at hrun happ4
 have HA := Lib.hid happ4
 have HB := Lib.hid (HB3.out.trans hb4)
 have q5 := Q.out.below HB.out hl3
 simp only [cV, T.k, T.n, T.x, T.s, T.l] at q5
 have lg5 := q5.lt
 obtain ⟨r0, r1, r2, r3, r4⟩ := q5.cells5
 clear q5 happ4 hb4 hA3
 go_wp2_with (at_builtin; refine Lib.wpList_append_run _ rfl _ _ _ _ rfl _ _ rfl rfl _ _ hrun ?_)
 go_ret
 exact ⟨a4, c4, ret_sl (by rw [HE.out]), by rw [HE.out]; exact HA.out.less (by omega), H0.out.trans (HB.out.mono (by omega))⟩
theorem lo3x (n x : Int) (s : ByteArray) (l : List T) (h0 : ¬ (-1000000000000000 ≤ n ∧ n ≤ 1000000000000000)) : LO (.mk 3 n x s l) := by
 intro a cap B w hr hwf hsz hB
 have HW := Lib.hid hwf
 obtain ⟨hwk, hwn, hwx, hws⟩ := hwf
 simp only [cV, T.k, T.n, T.x, T.s, T.l] at hr hwk hwn hwx hws ⊢
 have hszl : T.szL l ≤ 1048576 := by simp only [T.sz] at hsz; omega
 have hss : s.size ≤ 1048576 := by simp only [T.sz] at hsz; omega
 obtain ⟨hl1, hl2⟩ := hr.len
 have hl0 := T.length_le_szL l
 have HR := Lib.hid hr
 have q1 := (Is.new w (cV (.mk 3 n x s l) a cap) 26).alloc (.cells (cH 0 0 8) 56)
 have H0 := Lib.hid ((below2 w (.cells (cV (.mk 3 n x s l) a cap) 26) (.cells (cH 0 0 8) 56)).trans ((below1 _ (.cells #[] 5)).mono (by simp; omega)))
 simp only [cV, cH, T.k, T.n, T.x, T.s, T.l] at q1 H0
 obtain ⟨c0, c1, c2', c3, c4⟩ := q1.cells5
 have lg := q1.lt
 have DN := Lib.hid (show decide (-1000000000000000 ≤ n ∧ n ≤ 1000000000000000) = false from decide_eq_false h0)
 have HE := Lib.hid (show packG false (.mk 3 n x s l) = [] from by rw [packG, if_neg (by omega), if_neg (by omega), if_pos rfl, if_neg h0])
 have HA := Lib.hid (AppL.empty (E := EByte) (n := 1) (e := 5) ((w.alloc (Obj.cells #[Value.int IntKind.i64 3, Value.int IntKind.i64 n, Value.int IntKind.i64 x, Value.string s, Value.slice a l.length cap] 26)).alloc (.cells (cH 0 0 8) 56)) w.heap.size (by simp; omega))
 clear h0
 go_enter Tryz.func40, Tryz.ntmps40
 go_wp2_with (go_at_call 74; refine (spec_l1InE _ _ _ _).mono ?_; rintro ee w2 ⟨rfl, rfl⟩; rw [DN.out])
 go_ret
 exact ⟨_, 0, ret_sl (by rw [HE.out]; rfl), by rw [HE.out]; have h := HA.out; simp only [size_alloc] at h; exact h, H0.out⟩
set_option maxHeartbeats 8000000 in
theorem lo11n (n x : Int) (s : ByteArray) (l : List T) (h0 : ¬ (0 ≤ n ∧ n ≤ 1000000000000000)) : LO (.mk 11 n x s l) := by
 intro a cap B w hr hwf hsz hB
 have HW := Lib.hid hwf
 obtain ⟨hwk, hwn, hwx, hws⟩ := hwf
 simp only [cV, T.k, T.n, T.x, T.s, T.l] at hr hwk hwn hwx hws ⊢
 have hszl : T.szL l ≤ 1048576 := by simp only [T.sz] at hsz; omega
 have hss : s.size ≤ 1048576 := by simp only [T.sz] at hsz; omega
 obtain ⟨hl1, hl2⟩ := hr.len
 have hl0 := T.length_le_szL l
 have HR := Lib.hid hr
 have HE := Lib.hid (show packG false (.mk 11 n x s l) = [] from by rw [packG, if_neg (by omega), if_neg (by omega), if_neg (by omega), if_neg (by omega), if_neg (by omega), if_neg (by omega), if_neg (by omega), if_neg (by omega), if_neg (by omega), if_pos rfl, if_neg h0])
 have HD := Lib.hid (show decide (headOk 6 n 8) = false from decide_eq_false (fun h => h0 h.2.1))
 clear hr hwk hwn hwx hws hsz
 go_enter Tryz.func40, Tryz.ntmps40
 go_upto_region 29 with (fail)
 generalize hW : World.alloc (World.alloc w _) _ = W1
 have q1 : Is W1 w.heap.size 26 (cV (.mk 11 n x s l) a cap) := by subst hW; exact (Is.new _ _ _).alloc _
 have q2 : Is W1 (w.heap.size + 1) 56 (cH 6 n 8) := by subst hW; exact Is.new2 _ _ _ _
 have H0 := Lib.hid (show Below w.heap.size w W1 from by subst hW; exact below2 w _ _)
 have hs0 : W1.heap.size = w.heap.size + 2 := by subst hW; simp only [size_set, size_alloc]
 clear hW
 have Q := Lib.hid q1
 have hl3 : w.heap.size < W1.heap.size := by omega
 obtain ⟨c0, c1, c2⟩ := q2.cells3
 have lg2 : w.heap.size + 1 < W1.heap.size := by omega
 go_wp2_with fail
 refine (spec_HeadOk 6 n 8 _).mono ?_
 rintro e w2 ⟨rfl, hb2⟩
 rw [HD.out]
 have HB2 := Lib.hid (H0.out.trans (hb2.mono (by omega)))
 have HA := Lib.hid (AppL.empty (E := EByte) (n := 1) (e := 5) w2 w.heap.size HB2.out.size)
 have HB := Lib.hid (HB2.out.trans ((below1 w2 (.cells #[] 5)).mono HB2.out.size))
 clear c0 c1 c2 q1 q2 hb2 lg2
 go_wp2_with fail
 go_ret
 exact ⟨_, 0, ret_sl (by rw [HE.out]; rfl), by rw [HE.out]; exact HA.out, HB.out⟩
theorem spec_LooseTight : ∀ t : T, LO t := by
 apply T.ind
 intro k n x s l ih
 by_cases h0 : ¬ (k = 3 ∨ k = 7 ∨ k = 8 ∨ k = 9 ∨ k = 10 ∨ k = 11)
 ·exact lo0 k n x s l h0
 ·rcases Classical.not_not.1 h0 with h | h | h | h | h | h
  ·subst h
   by_cases hn : -1000000000000000 ≤ n ∧ n ≤ 1000000000000000
   ·by_cases h1 : n < 0
    ·exact lo3n n x s l hn h1
    ·exact lo3 n x s l hn h1
   ·exact lo3x n x s l hn
  ·subst h; exact lo7 n x s l
  ·subst h; exact lo8 n x s l
  ·subst h; exact lo9 n x s l ih
  ·subst h; exact lo10 n x s l ih
  ·subst h
   by_cases hn : 0 ≤ n ∧ n ≤ 1000000000000000
   ·exact lo11 n x s l ih hn
   ·exact lo11n n x s l hn
end Go.Proofs.YtggdenkmohnijaaGreatDoor
