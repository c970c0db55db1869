/- Texts of this proof, merged: Tig2, Tig3, Tig5. No condition beyond what each theorem states. -/
import Derived.Test.YtggdenkmohnijaaGreatDoorZO11
set_option linter.unusedSimpArgs false
set_option linter.unnecessarySimpa false
namespace Go.Proofs.YtggdenkmohnijaaGreatDoor
open Go.ChangeShapes Go.WideShapes Go.ChangeAt Go.RowKit Go.Joins
set_option linter.unusedVariables false
set_option maxRecDepth 100000
theorem spec_PutHead0 (m n k : Int) (g : Nat) (w : World) (hn : I64 n) :
  Calls Tryz.prog 73 #[.slice (some ⟨g, 0, none⟩) 0 0, .agg (cH m n k)] w fun e w' => ∃ a' cap', e = .returned (.slice a' (headL m n k).length cap') ∧ AppL EByte 1 5 w' w.heap.size a' cap' (headL m n k) [] ∧ Below w.heap.size w w' :=
 spec_PutHead [] m n k (some ⟨g, 0, none⟩) 0 0 w ⟨[], Sl.nil _ _ _ (by simp [maxLen]), by simp⟩ hn (by simp) (Nat.zero_le _)
theorem spec_HeadForOk (m n : Int) (w : World) (hm : 0 ≤ m ∧ m ≤ 7) (hn : 0 ≤ n ∧ n ≤ 1000000000000000) :
  Calls Tryz.prog 75 #[.int .i64 m, .int .i64 n] w fun e w' => (∃ k, e = .returned (.agg (cH m n k)) ∧ hdL m n = headL m n k) ∧ Below w.heap.size w w' := by
 refine (spec_HeadFor m n w ⟨by omega, by omega⟩).mono ?_
 rintro e w' ⟨rfl, hb⟩
 refine ⟨⟨if 23 < n then widthD n else 0, ?_, ?_⟩, hb⟩
 ·rw [headForD_ok hm hn]
 ·unfold hdL; rw [headForD_ok hm hn]
def PT (t : T) : Prop := ∀ (a : Option Addr) (cap B : Nat) (w : World), R w B a cap t.l → Wf t → T.sz t ≤ 1048576 → B ≤ w.heap.size →
      Calls Tryz.prog 22 #[.agg (cV t a cap)] w fun e w' => ∃ a' cap', e = .returned (.slice a' (packT t).length cap') ∧ AppL EByte 1 5 w' w.heap.size a' cap' (packT t) [] ∧ Below w.heap.size w w'
set_option maxHeartbeats 4000000 in
theorem pt1 (k n x : Int) (s : ByteArray) (l : List T) (hk : k = 1) : PT (.mk k n x s l) := by
 intro a cap B w hr hwf hsz hB
 obtain ⟨hwk, hwn, hwx, hws⟩ := hwf
 simp only [cV, T.k, T.n, T.x, T.s, T.l] at hr hwk hwn hwx hws ⊢
 have HN := Lib.hid hwn
 have HX := Lib.hid hwx
 have q1 := (Is.new w (cV (.mk k n x s l) a cap) 26).alloc (.cells #[] 5)
 have H0 := Lib.hid (below2 w (.cells (cV (.mk k n x s l) a cap) 26) (.cells #[] 5))
 simp only [cV, T.k, T.n, T.x, T.s, T.l] at q1 H0
 have hs0 : w.heap.size + 2 = ((w.alloc (Obj.cells #[Value.int IntKind.i64 k, Value.int IntKind.i64 n, Value.int IntKind.i64 x, Value.string s, Value.slice a l.length cap] 26)).alloc (Obj.cells #[] 5)).heap.size := by simp
 subst hk
 have HE := Lib.hid (show packT (.mk 1 n x s l) = headL 7 22 0 from by rw [packT]; rfl)
 clear hwk hwn hwx hws
 go_enter Tryz.func22, Tryz.ntmps22
 go_wp2_with fail
 refine (spec_PutHead0 7 22 0 _ _ ⟨by omega, by omega⟩).mono ?_
 rintro e w2 ⟨a2, c2, rfl, happ, hb⟩
 have HA := Lib.hid (happ.less (show w.heap.size ≤ _ by omega))
 have HB := Lib.hid (H0.out.trans (hb.mono (by omega)))
 clear happ hb
 go_wp2_with fail
 go_ret
 exact ⟨a2, c2, ret_sl (by rw [HE.out]), by rw [HE.out]; exact HA.out, HB.out⟩
set_option maxHeartbeats 4000000 in
theorem pt2 (k n x : Int) (s : ByteArray) (l : List T) (hk : k = 2) : PT (.mk k n x s l) := by
 intro a cap B w hr hwf hsz hB
 obtain ⟨hwk, hwn, hwx, hws⟩ := hwf
 simp only [cV, T.k, T.n, T.x, T.s, T.l] at hr hwk hwn hwx hws ⊢
 have HN := Lib.hid hwn
 have HX := Lib.hid hwx
 have q1 := (Is.new w (cV (.mk k n x s l) a cap) 26).alloc (.cells #[] 5)
 have H0 := Lib.hid (below2 w (.cells (cV (.mk k n x s l) a cap) 26) (.cells #[] 5))
 simp only [cV, T.k, T.n, T.x, T.s, T.l] at q1 H0
 have hs0 : w.heap.size + 2 = ((w.alloc (Obj.cells #[Value.int IntKind.i64 k, Value.int IntKind.i64 n, Value.int IntKind.i64 x, Value.string s, Value.slice a l.length cap] 26)).alloc (Obj.cells #[] 5)).heap.size := by simp
 subst hk
 clear hwk hwx hws
 by_cases h1 : n = 1
 ·subst h1
  have HE := Lib.hid (show packT (.mk 2 1 x s l) = headL 7 21 0 from by rw [packT, if_neg (by omega), if_pos rfl, if_pos rfl])
  go_enter Tryz.func22, Tryz.ntmps22
  go_wp2_with fail
  refine (spec_PutHead0 7 21 0 _ _ ⟨by omega, by omega⟩).mono ?_
  rintro e w2 ⟨a2, c2, rfl, happ, hb⟩
  have HA := Lib.hid (happ.less (show w.heap.size ≤ _ by omega))
  have HB := Lib.hid (H0.out.trans (hb.mono (by omega)))
  clear happ hb
  go_wp2_with fail
  go_ret
  exact ⟨a2, c2, ret_sl (by rw [HE.out]), by rw [HE.out]; exact HA.out, HB.out⟩
 ·have HE := Lib.hid (show packT (.mk 2 n x s l) = headL 7 20 0 from by rw [packT, if_neg (by omega), if_pos rfl, if_neg h1])
  go_enter Tryz.func22, Tryz.ntmps22
  go_wp2_with fail
  refine (spec_PutHead0 7 20 0 _ _ ⟨by omega, by omega⟩).mono ?_
  rintro e w2 ⟨a2, c2, rfl, happ, hb⟩
  have HA := Lib.hid (happ.less (show w.heap.size ≤ _ by omega))
  have HB := Lib.hid (H0.out.trans (hb.mono (by omega)))
  clear happ hb
  go_wp2_with fail
  go_ret
  exact ⟨a2, c2, ret_sl (by rw [HE.out]), by rw [HE.out]; exact HA.out, HB.out⟩
set_option maxHeartbeats 4000000 in
theorem pt3 (k n x : Int) (s : ByteArray) (l : List T) (hk : k = 3) : PT (.mk k n x s l) := by
 intro a cap B w hr hwf hsz hB
 obtain ⟨hwk, hwn, hwx, hws⟩ := hwf
 simp only [cV, T.k, T.n, T.x, T.s, T.l] at hr hwk hwn hwx hws ⊢
 have HN := Lib.hid hwn
 have HX := Lib.hid hwx
 have q1 := (Is.new w (cV (.mk k n x s l) a cap) 26).alloc (.cells #[] 5)
 have H0 := Lib.hid (below2 w (.cells (cV (.mk k n x s l) a cap) 26) (.cells #[] 5))
 simp only [cV, T.k, T.n, T.x, T.s, T.l] at q1 H0
 have hs0 : w.heap.size + 2 = ((w.alloc (Obj.cells #[Value.int IntKind.i64 k, Value.int IntKind.i64 n, Value.int IntKind.i64 x, Value.string s, Value.slice a l.length cap] 26)).alloc (Obj.cells #[] 5)).heap.size := by simp
 subst hk
 clear hwk hwx hws
 by_cases h0 : -1000000000000000 ≤ n ∧ n ≤ 1000000000000000
 ·have DN := Lib.hid (show decide (-1000000000000000 ≤ n ∧ n ≤ 1000000000000000) = true from decide_eq_true h0)
  obtain ⟨c0, c1, c2', c3, c4⟩ := q1.cells5
  have lg := q1.lt
  obtain ⟨l1, l2⟩ := h0
  by_cases h1 : n < 0
  ·have HE := Lib.hid (show packT (.mk 3 n x s l) = hdL 1 (-1 - n) from by rw [packT, if_neg (by omega), if_neg (by omega), if_pos rfl, if_pos ⟨l1, l2⟩, if_pos h1])
   go_enter Tryz.func22, Tryz.ntmps22
   go_wp2_with (go_at_call 74; refine (spec_l1InE _ _ _ _).mono ?_; rintro ee w2 ⟨rfl, rfl⟩; rw [DN.out])
   refine (spec_HeadForOk 1 (-1 - n) _ (by omega) (by omega)).mono ?_
   rintro e w2 ⟨⟨kk, rfl, hkk⟩, hb⟩
   have hs2 := hb.size
   have H2 := Lib.hid (H0.out.trans (hb.mono (by omega)))
   rw [hkk] at HE
   clear hb hkk
   go_wp2_with fail
   refine (spec_PutHead0 1 (-1 - n) kk _ _ ⟨by omega, by omega⟩).mono ?_
   rintro e w3 ⟨a2, c2, rfl, happ, hb⟩
   have HA := Lib.hid (happ.less (show w.heap.size ≤ _ by omega))
   have HB := Lib.hid (H2.out.trans (hb.mono (by omega)))
   clear happ hb
   go_wp2_with fail
   go_ret
   exact ⟨a2, c2, ret_sl (by rw [HE.out]), by rw [HE.out]; exact HA.out, HB.out⟩
  ·have HE := Lib.hid (show packT (.mk 3 n x s l) = hdL 0 n from by rw [packT, if_neg (by omega), if_neg (by omega), if_pos rfl, if_pos ⟨l1, l2⟩, if_neg h1])
   go_enter Tryz.func22, Tryz.ntmps22
   go_wp2_with (go_at_call 74; refine (spec_l1InE _ _ _ _).mono ?_; rintro ee w2 ⟨rfl, rfl⟩; rw [DN.out])
   refine (spec_HeadForOk 0 n _ (by omega) (by omega)).mono ?_
   rintro e w2 ⟨⟨kk, rfl, hkk⟩, hb⟩
   have hs2 := hb.size
   have H2 := Lib.hid (H0.out.trans (hb.mono (by omega)))
   rw [hkk] at HE
   clear hb hkk
   go_wp2_with fail
   refine (spec_PutHead0 0 n kk _ _ ⟨by omega, by omega⟩).mono ?_
   rintro e w3 ⟨a2, c2, rfl, happ, hb⟩
   have HA := Lib.hid (happ.less (show w.heap.size ≤ _ by omega))
   have HB := Lib.hid (H2.out.trans (hb.mono (by omega)))
   clear happ hb
   go_wp2_with fail
   go_ret
   exact ⟨a2, c2, ret_sl (by rw [HE.out]), by rw [HE.out]; exact HA.out, HB.out⟩
 ·have DN := Lib.hid (show decide (-1000000000000000 ≤ n ∧ n ≤ 1000000000000000) = false from decide_eq_false h0)
  have HE := Lib.hid (show packT (.mk 3 n x s l) = [] from by rw [packT, if_neg (by omega), if_neg (by omega), if_pos rfl, if_neg h0])
  obtain ⟨c0, c1, c2', c3, c4⟩ := q1.cells5
  have lg := q1.lt
  have HA := Lib.hid (AppL.empty (E := EByte) (n := 1) (e := 5) (w.alloc (Obj.cells #[Value.int IntKind.i64 3, Value.int IntKind.i64 n, Value.int IntKind.i64 x, Value.string s, Value.slice a l.length cap] 26)) w.heap.size (by simp))
  clear h0
  go_enter Tryz.func22, Tryz.ntmps22
  go_wp2_with (go_at_call 74; refine (spec_l1InE _ _ _ _).mono ?_; rintro ee w2 ⟨rfl, rfl⟩; rw [DN.out])
  go_ret
  exact ⟨_, 0, ret_sl (by rw [HE.out]; rfl), by rw [HE.out]; have h := HA.out; rw [size_alloc] at h; exact h, H0.out⟩
set_option maxHeartbeats 4000000 in
theorem pt4 (k n x : Int) (s : ByteArray) (l : List T) (hk : k = 4) : PT (.mk k n x s l) := by
 intro a cap B w hr hwf hsz hB
 obtain ⟨hwk, hwn, hwx, hws⟩ := hwf
 simp only [cV, T.k, T.n, T.x, T.s, T.l] at hr hwk hwn hwx hws ⊢
 have HN := Lib.hid hwn
 have HX := Lib.hid hwx
 have q1 := (Is.new w (cV (.mk k n x s l) a cap) 26).alloc (.cells #[] 5)
 have H0 := Lib.hid (below2 w (.cells (cV (.mk k n x s l) a cap) 26) (.cells #[] 5))
 simp only [cV, T.k, T.n, T.x, T.s, T.l] at q1 H0
 have hs0 : w.heap.size + 2 = ((w.alloc (Obj.cells #[Value.int IntKind.i64 k, Value.int IntKind.i64 n, Value.int IntKind.i64 x, Value.string s, Value.slice a l.length cap] 26)).alloc (Obj.cells #[] 5)).heap.size := by simp
 subst hk
 have HE := Lib.hid (show packT (.mk 4 n x s l) = headL 7 (fltBitsD n x) 4 from by rw [packT, if_neg (by omega), if_neg (by omega), if_neg (by omega), if_pos rfl])
 have hfb := fltBitsD_in n x
 obtain ⟨c0, c1, c2', c3, c4⟩ := q1.cells5
 have lg := q1.lt
 clear hwk hws
 go_enter Tryz.func22, Tryz.ntmps22
 go_wp2_with fail
 refine (spec_FltBits n x _ HN.out HX.out).mono ?_
 rintro e w2 ⟨rfl, hb⟩
 have hs2 := hb.size
 have H2 := Lib.hid (H0.out.trans (hb.mono (by omega)))
 clear hb
 go_wp2_with fail
 refine (spec_PutHead0 7 (fltBitsD n x) 4 _ _ ⟨by omega, by omega⟩).mono ?_
 rintro e w3 ⟨a2, c2, rfl, happ, hb⟩
 have HA := Lib.hid (happ.less (show w.heap.size ≤ _ by omega))
 have HB := Lib.hid (H2.out.trans (hb.mono (by omega)))
 clear happ hb
 go_wp2_with fail
 go_ret
 exact ⟨a2, c2, ret_sl (by rw [HE.out]), by rw [HE.out]; exact HA.out, HB.out⟩
set_option maxHeartbeats 4000000 in
theorem pt5 (k n x : Int) (s : ByteArray) (l : List T) (hk : k = 5) : PT (.mk k n x s l) := by
 intro a cap B w hr hwf hsz hB
 obtain ⟨hwk, hwn, hwx, hws⟩ := hwf
 simp only [cV, T.k, T.n, T.x, T.s, T.l] at hr hwk hwn hwx hws ⊢
 have HN := Lib.hid hwn
 have HX := Lib.hid hwx
 have q1 := (Is.new w (cV (.mk k n x s l) a cap) 26).alloc (.cells #[] 5)
 have H0 := Lib.hid (below2 w (.cells (cV (.mk k n x s l) a cap) 26) (.cells #[] 5))
 simp only [cV, T.k, T.n, T.x, T.s, T.l] at q1 H0
 have hs0 : w.heap.size + 2 = ((w.alloc (Obj.cells #[Value.int IntKind.i64 k, Value.int IntKind.i64 n, Value.int IntKind.i64 x, Value.string s, Value.slice a l.length cap] 26)).alloc (Obj.cells #[] 5)).heap.size := by simp
 subst hk
 clear hwk hwx hws
 obtain ⟨c0, c1, c2', c3, c4⟩ := q1.cells5
 have lg := q1.lt
 by_cases h0 : 0 ≤ n ∧ n ≤ 2
 ·have DN := Lib.hid (show decide (0 ≤ n ∧ n ≤ 2) = true from decide_eq_true h0)
  obtain ⟨l1, l2⟩ := h0
  have HE := Lib.hid (show packT (.mk 5 n x s l) = headL 7 (32 + n) 1 from by rw [packT, if_neg (by omega), if_neg (by omega), if_neg (by omega), if_neg (by omega), if_pos rfl, if_pos ⟨l1, l2⟩])
  go_enter Tryz.func22, Tryz.ntmps22
  go_wp2_with (go_at_call 74; refine (spec_l1InE _ _ _ _).mono ?_; rintro ee w2 ⟨rfl, rfl⟩; rw [DN.out])
  refine (spec_PutHead0 7 (32 + n) 1 _ _ ⟨by omega, by omega⟩).mono ?_
  rintro e w2 ⟨a2, c2, rfl, happ, hb⟩
  have HA := Lib.hid (happ.less (show w.heap.size ≤ _ by omega))
  have HB := Lib.hid (H0.out.trans (hb.mono (by omega)))
  clear happ hb
  go_wp2_with fail
  go_ret
  exact ⟨a2, c2, ret_sl (by rw [HE.out]), by rw [HE.out]; exact HA.out, HB.out⟩
 ·have DN := Lib.hid (show decide (0 ≤ n ∧ n ≤ 2) = false from decide_eq_false h0)
  have HE := Lib.hid (show packT (.mk 5 n x s l) = [] from by rw [packT, if_neg (by omega), if_neg (by omega), if_neg (by omega), if_neg (by omega), if_pos rfl, if_neg h0])
  have HA := Lib.hid (AppL.empty (E := EByte) (n := 1) (e := 5) (w.alloc (Obj.cells #[Value.int IntKind.i64 5, Value.int IntKind.i64 n, Value.int IntKind.i64 x, Value.string s, Value.slice a l.length cap] 26)) w.heap.size (by simp))
  clear h0
  go_enter Tryz.func22, Tryz.ntmps22
  go_wp2_with (go_at_call 74; refine (spec_l1InE _ _ _ _).mono ?_; rintro ee w2 ⟨rfl, rfl⟩; rw [DN.out])
  go_ret
  exact ⟨_, 0, ret_sl (by rw [HE.out]; rfl), by rw [HE.out]; have h := HA.out; rw [size_alloc] at h; exact h, H0.out⟩
set_option maxHeartbeats 4000000 in
theorem pt0 (k n x : Int) (s : ByteArray) (l : List T) (hk : ¬ (k = 1 ∨ k = 2 ∨ k = 3 ∨ k = 4 ∨ k = 5 ∨ k = 7 ∨ k = 8 ∨ k = 9 ∨ k = 10 ∨ k = 11)) : PT (.mk k n x s l) := by
 intro a cap B w hr hwf hsz hB
 obtain ⟨hwk, hwn, hwx, hws⟩ := hwf
 simp only [cV, T.k, T.n, T.x, T.s, T.l] at hr hwk hwn hwx hws ⊢
 have HN := Lib.hid hwn
 have HX := Lib.hid hwx
 have q1 := (Is.new w (cV (.mk k n x s l) a cap) 26).alloc (.cells #[] 5)
 have H0 := Lib.hid (below2 w (.cells (cV (.mk k n x s l) a cap) 26) (.cells #[] 5))
 simp only [cV, T.k, T.n, T.x, T.s, T.l] at q1 H0
 have hs0 : w.heap.size + 2 = ((w.alloc (Obj.cells #[Value.int IntKind.i64 k, Value.int IntKind.i64 n, Value.int IntKind.i64 x, Value.string s, Value.slice a l.length cap] 26)).alloc (Obj.cells #[] 5)).heap.size := by simp
 have HE := Lib.hid (show packT (.mk k n x s l) = [] from by rw [packT, if_neg (by omega), if_neg (by omega), if_neg (by omega), if_neg (by omega), if_neg (by omega), if_neg (by omega), if_neg (by omega), if_neg (by omega), if_neg (by omega), if_neg (by omega)])
 have HA := Lib.hid (AppL.empty (E := EByte) (n := 1) (e := 5) (w.alloc (Obj.cells #[Value.int IntKind.i64 k, Value.int IntKind.i64 n, Value.int IntKind.i64 x, Value.string s, Value.slice a l.length cap] 26)) w.heap.size (by simp))
 have g1 : ¬ k = 1 := by omega
 have g2 : ¬ k = 2 := by omega
 have g3 : ¬ k = 3 := by omega
 have g4 : ¬ k = 4 := by omega
 have g5 : ¬ k = 5 := by omega
 have g7 : ¬ k = 7 := by omega
 have g8 : ¬ k = 8 := by omega
 have g9 : ¬ k = 9 := by omega
 have g10 : ¬ k = 10 := by omega
 have g11 : ¬ k = 11 := by omega
 obtain ⟨c0, c1, c2', c3, c4⟩ := q1.cells5
 have lg := q1.lt
 clear hk
 go_enter Tryz.func22, Tryz.ntmps22
 go_wp2_with fail
 go_ret
 exact ⟨_, 0, ret_sl (by rw [HE.out]; rfl), by rw [HE.out]; have h := HA.out; rw [size_alloc] at h; exact h, H0.out⟩
set_option maxHeartbeats 4000000 in
theorem pt9 (n x : Int) (s : ByteArray) (l : List T) (IH : ∀ t ∈ l, PT t)  : PT (.mk 9 n x s l) := by
 intro a cap B w hr hwf hsz hB
 obtain ⟨hwk, hwn, hwx, hws⟩ := hwf
 simp only [cV, T.k, T.n, T.x, T.s, T.l] at hr hwk hwn hwx hws ⊢
 have hszl : T.szL l ≤ 1048576 := by simp only [T.sz] at hsz; omega
 obtain ⟨hl1, hl2⟩ := hr.len
 have hl0 := T.length_le_szL l
 have HR := Lib.hid hr
 have HI := Lib.hid IH
 have HE := Lib.hid (show packT (.mk 9 n x s l) = hdL 4 l.length ++ packTs l from by rw [packT, if_neg (by omega), if_neg (by omega), if_neg (by omega), if_neg (by omega), if_neg (by omega), if_neg (by omega), if_neg (by omega), if_pos rfl])
 clear hr IH hwk hwn hwx hws hsz
 go_enter Tryz.func22, Tryz.ntmps22
 go_wp2_with fail
 generalize hW : (w.alloc (Obj.cells _ 26)).alloc (Obj.cells #[] 5) = W0
 have q1 : Is W0 w.heap.size 26 (cV (.mk 9 n x s l) a cap) := by subst hW; exact (Is.new _ _ _).alloc _
 have H0 := Lib.hid (show Below w.heap.size w W0 from by subst hW; exact below2 _ _ _)
 have hs0 : W0.heap.size = w.heap.size + 2 := by subst hW; simp
 clear hW
 obtain ⟨r0, r1, r2, r3, r4⟩ := q1.cells5
 have hl3 : w.heap.size < W0.heap.size := by omega
 refine tkW (W0.heap.size) W0 (fun hHeld => ?_)
 refine tkS 0 92 rfl ?_
 refine tkS 1 93 rfl ?_
 refine tkS 2 94 rfl ?_
 refine tkS 3 95 rfl ?_
 refine tkS 6 98 rfl ?_
 refine tkS 7 99 rfl ?_
 refine tkA 4 96 rfl (fun K hK => ?_)
 go_simp; (first | (go_at_call 73; refine (spec_PutHead0 4 (l.length : Int) kk _ _ ⟨by omega, by omega⟩).mono ?_; rintro e w3 ⟨a3, c3, rfl, happ3, hb3⟩; have HA3 := Lib.hid (happ3.less (show W0.heap.size ≤ _ by omega)); clear happ3; have hsz3 := hb3.size) | (go_at_call 77; refine (l13All_of l HI _ _ _ _ W0.heap.size _ _ B _ rfl HA3.out (by omega) (HR.out.below (H0.out.trans ((‹_ ∧ Below (W0.heap.size) W0 _›).2.mono (by omega))) hB) (by omega) hszl (by have := headL_len 4 (l.length : Int) kk; omega)).mono ?_; rintro e w4 ⟨a4, c4, rfl, happ4, hb4⟩; have hsz4 := hb4.size) | (go_at_call 75; refine (spec_HeadForOk 4 (l.length : Int) _ (by omega) (by omega)).mono ?_; rintro e w2 ⟨⟨kk, rfl, hkk⟩, hb2⟩; have hsz2 := hb2.size; (try simp only [World.size_drew] at hsz2))); go_wp2_with fail; refine tkK hK (fun hHeld => ?_); clear hK K
 refine tkA 5 97 rfl (fun K hK => ?_)
 focus (go_simp; (first | (go_at_call 73; refine (spec_PutHead0 4 (l.length : Int) kk _ _ ⟨by omega, by omega⟩).mono ?_; rintro e w3 ⟨a3, c3, rfl, happ3, hb3⟩; have HA3 := Lib.hid (happ3.less (show W0.heap.size ≤ _ by omega)); clear happ3; have hsz3 := hb3.size) | (go_at_call 77; refine (l13All_of l HI _ _ _ _ W0.heap.size _ _ B _ rfl HA3.out (by omega) (HR.out.below (H0.out.trans ((‹_ ∧ Below (W0.heap.size) W0 _›).2.mono (by omega))) hB) (by omega) hszl (by have := headL_len 4 (l.length : Int) kk; omega)).mono ?_; rintro e w4 ⟨a4, c4, rfl, happ4, hb4⟩; have hsz4 := hb4.size) | (go_at_call 75; refine (spec_HeadForOk 4 (l.length : Int) _ (by omega) (by omega)).mono ?_; rintro e w2 ⟨⟨kk, rfl, hkk⟩, hb2⟩; have hsz2 := hb2.size; (try simp only [World.size_drew] at hsz2))); go_wp2_with fail; refine tkK hK (fun hHeld => ?_); clear hK K)
 refine tkA 8 100 rfl (fun K hK => ?_)
 focus (go_simp; (first | (go_at_call 73; refine (spec_PutHead0 4 (l.length : Int) kk _ _ ⟨by omega, by omega⟩).mono ?_; rintro e w3 ⟨a3, c3, rfl, happ3, hb3⟩; have HA3 := Lib.hid (happ3.less (show W0.heap.size ≤ _ by omega)); clear happ3; have hsz3 := hb3.size) | (go_at_call 77; refine (l13All_of l HI _ _ _ _ W0.heap.size _ _ B _ rfl HA3.out (by omega) (HR.out.below (H0.out.trans ((‹_ ∧ Below (W0.heap.size) W0 _›).2.mono (by omega))) hB) (by omega) hszl (by have := headL_len 4 (l.length : Int) kk; omega)).mono ?_; rintro e w4 ⟨a4, c4, rfl, happ4, hb4⟩; have hsz4 := hb4.size) | (go_at_call 75; refine (spec_HeadForOk 4 (l.length : Int) _ (by omega) (by omega)).mono ?_; rintro e w2 ⟨⟨kk, rfl, hkk⟩, hb2⟩; have hsz2 := hb2.size; (try simp only [World.size_drew] at hsz2))); go_wp2_with fail; refine tkK hK (fun hHeld => ?_); clear hK K)
 refine tkS 9 2 rfl ?_
 refine tkE ?_
 all_goals
  have hBB := (‹_ ∧ Below (W0.heap.size) W0 _›).2
  go_wp2_with fail
  go_ret
  exact ⟨a4, c4, ret_sl (by simp only [HE.out, hkk, List.length_append]), by rw [HE.out, hkk]; exact happ4.less (by omega), H0.out.trans (hBB.mono (by omega))⟩
set_option maxHeartbeats 4000000 in
theorem pt11 (n x : Int) (s : ByteArray) (l : List T) (IH : ∀ t ∈ l, PT t) (h0 : 0 ≤ n ∧ n ≤ 1000000000000000) : PT (.mk 11 n x s l) := by
 intro a cap B w hr hwf hsz hB
 obtain ⟨hwk, hwn, hwx, hws⟩ := hwf
 simp only [cV, T.k, T.n, T.x, T.s, T.l] at hr hwk hwn hwx hws ⊢
 have hszl : T.szL l ≤ 1048576 := by simp only [T.sz] at hsz; omega
 obtain ⟨hl1, hl2⟩ := hr.len
 have hl0 := T.length_le_szL l
 have HR := Lib.hid hr
 have HI := Lib.hid IH
 have HE := Lib.hid (show packT (.mk 11 n x s l) = hdL 6 n ++ packTs l from by rw [packT, if_neg (by omega), if_neg (by omega), if_neg (by omega), if_neg (by omega), if_neg (by omega), if_neg (by omega), if_neg (by omega), if_neg (by omega), if_neg (by omega), if_pos rfl, if_pos h0])
 have DN := Lib.hid (show decide (0 ≤ n ∧ n ≤ 1000000000000000) = true from decide_eq_true h0)
 obtain ⟨i1, i2⟩ := h0
 have q0 := (Is.new w (cV (.mk 11 n x s l) a cap) 26).alloc (.cells #[] 5)
 simp only [cV, T.k, T.n, T.x, T.s, T.l] at q0
 obtain ⟨c0, c1, c2', c3, c4⟩ := q0.cells5
 have lg := q0.lt
 clear hr IH hwk hwn hwx hws hsz
 go_enter Tryz.func22, Tryz.ntmps22
 go_wp2_with (go_at_call 74; refine (spec_l1InE _ _ _ _).mono ?_; rintro ee w2 ⟨rfl, rfl⟩; rw [DN.out])
 clear q0 c0 c1 c2' c3 c4 lg
 generalize hW : (w.alloc (Obj.cells _ 26)).alloc (Obj.cells #[] 5) = W0
 have q1 : Is W0 w.heap.size 26 (cV (.mk 11 n x s l) a cap) := by subst hW; exact (Is.new _ _ _).alloc _
 have H0 := Lib.hid (show Below w.heap.size w W0 from by subst hW; exact below2 _ _ _)
 have hs0 : W0.heap.size = w.heap.size + 2 := by subst hW; simp
 clear hW
 obtain ⟨r0, r1, r2, r3, r4⟩ := q1.cells5
 have hl3 : w.heap.size < W0.heap.size := by omega
 refine tkW (W0.heap.size) W0 (fun hHeld => ?_)
 refine tkS 0 120 rfl ?_
 refine tkS 1 121 rfl ?_
 refine tkS 2 122 rfl ?_
 refine tkS 5 125 rfl ?_
 refine tkS 6 126 rfl ?_
 refine tkA 3 123 rfl (fun K hK => ?_)
 go_simp; (first | (go_at_call 73; refine (spec_PutHead0 6 n kk _ _ ⟨by omega, by omega⟩).mono ?_; rintro e w3 ⟨a3, c3, rfl, happ3, hb3⟩; have HA3 := Lib.hid (happ3.less (show W0.heap.size ≤ _ by omega)); clear happ3; have hsz3 := hb3.size) | (go_at_call 77; refine (l13All_of l HI _ _ _ _ W0.heap.size _ _ B _ rfl HA3.out (by omega) (HR.out.below (H0.out.trans ((‹_ ∧ Below (W0.heap.size) W0 _›).2.mono (by omega))) hB) (by omega) hszl (by have := headL_len 6 n kk; omega)).mono ?_; rintro e w4 ⟨a4, c4, rfl, happ4, hb4⟩; have hsz4 := hb4.size) | (go_at_call 75; refine (spec_HeadForOk 6 n _ (by omega) (by omega)).mono ?_; rintro e w2 ⟨⟨kk, rfl, hkk⟩, hb2⟩; have hsz2 := hb2.size; (try simp only [World.size_drew] at hsz2))); go_wp2_with fail; refine tkK hK (fun hHeld => ?_); clear hK K
 refine tkA 4 124 rfl (fun K hK => ?_)
 focus (go_simp; (first | (go_at_call 73; refine (spec_PutHead0 6 n kk _ _ ⟨by omega, by omega⟩).mono ?_; rintro e w3 ⟨a3, c3, rfl, happ3, hb3⟩; have HA3 := Lib.hid (happ3.less (show W0.heap.size ≤ _ by omega)); clear happ3; have hsz3 := hb3.size) | (go_at_call 77; refine (l13All_of l HI _ _ _ _ W0.heap.size _ _ B _ rfl HA3.out (by omega) (HR.out.below (H0.out.trans ((‹_ ∧ Below (W0.heap.size) W0 _›).2.mono (by omega))) hB) (by omega) hszl (by have := headL_len 6 n kk; omega)).mono ?_; rintro e w4 ⟨a4, c4, rfl, happ4, hb4⟩; have hsz4 := hb4.size) | (go_at_call 75; refine (spec_HeadForOk 6 n _ (by omega) (by omega)).mono ?_; rintro e w2 ⟨⟨kk, rfl, hkk⟩, hb2⟩; have hsz2 := hb2.size; (try simp only [World.size_drew] at hsz2))); go_wp2_with fail; refine tkK hK (fun hHeld => ?_); clear hK K)
 refine tkA 7 127 rfl (fun K hK => ?_)
 focus (go_simp; (first | (go_at_call 73; refine (spec_PutHead0 6 n kk _ _ ⟨by omega, by omega⟩).mono ?_; rintro e w3 ⟨a3, c3, rfl, happ3, hb3⟩; have HA3 := Lib.hid (happ3.less (show W0.heap.size ≤ _ by omega)); clear happ3; have hsz3 := hb3.size) | (go_at_call 77; refine (l13All_of l HI _ _ _ _ W0.heap.size _ _ B _ rfl HA3.out (by omega) (HR.out.below (H0.out.trans ((‹_ ∧ Below (W0.heap.size) W0 _›).2.mono (by omega))) hB) (by omega) hszl (by have := headL_len 6 n kk; omega)).mono ?_; rintro e w4 ⟨a4, c4, rfl, happ4, hb4⟩; have hsz4 := hb4.size) | (go_at_call 75; refine (spec_HeadForOk 6 n _ (by omega) (by omega)).mono ?_; rintro e w2 ⟨⟨kk, rfl, hkk⟩, hb2⟩; have hsz2 := hb2.size; (try simp only [World.size_drew] at hsz2))); go_wp2_with fail; refine tkK hK (fun hHeld => ?_); clear hK K)
 refine tkS 8 2 rfl ?_
 refine tkE ?_
 all_goals
  have hBB := (‹_ ∧ Below (W0.heap.size) W0 _›).2
  go_wp2_with fail
  go_ret
  exact ⟨a4, c4, ret_sl (by simp only [HE.out, hkk, List.length_append]), by rw [HE.out, hkk]; exact happ4.less (by omega), H0.out.trans (hBB.mono (by omega))⟩
theorem pt11n (n x : Int) (s : ByteArray) (l : List T) (h0 : ¬ (0 ≤ n ∧ n ≤ 1000000000000000)) : PT (.mk 11 n x s l) := by
 intro a cap B w hr hwf hsz hB
 obtain ⟨hwk, hwn, hwx, hws⟩ := hwf
 simp only [cV, T.k, T.n, T.x, T.s, T.l] at hr hwk hwn hwx hws ⊢
 have q1 := (Is.new w (cV (.mk 11 n x s l) a cap) 26).alloc (.cells #[] 5)
 have H0 := Lib.hid (below2 w (.cells (cV (.mk 11 n x s l) a cap) 26) (.cells #[] 5))
 simp only [cV, T.k, T.n, T.x, T.s, T.l] at q1 H0
 obtain ⟨c0, c1, c2', c3, c4⟩ := q1.cells5
 have lg := q1.lt
 have DN := Lib.hid (show decide (0 ≤ n ∧ n ≤ 1000000000000000) = false from decide_eq_false h0)
 have HE := Lib.hid (show packT (.mk 11 n x s l) = [] from by rw [packT, if_neg (by omega), if_neg (by omega), if_neg (by omega), if_neg (by omega), if_neg (by omega), if_neg (by omega), if_neg (by omega), if_neg (by omega), if_neg (by omega), if_pos rfl, if_neg h0])
 have HA := Lib.hid (AppL.empty (E := EByte) (n := 1) (e := 5) (w.alloc (Obj.cells #[Value.int IntKind.i64 11, Value.int IntKind.i64 n, Value.int IntKind.i64 x, Value.string s, Value.slice a l.length cap] 26)) w.heap.size (by simp))
 clear h0
 go_enter Tryz.func22, Tryz.ntmps22
 go_wp2_with (go_at_call 74; refine (spec_l1InE _ _ _ _).mono ?_; rintro ee w2 ⟨rfl, rfl⟩; rw [DN.out])
 go_ret
 exact ⟨_, 0, ret_sl (by rw [HE.out]; rfl), by rw [HE.out]; have h := HA.out; rw [size_alloc] at h; exact h, H0.out⟩
theorem step_appS {P : Program} {w : World} {ops : Array Oper} {o : Oper} {act : Act} {K : Act → World → Prop} {Q : Exit → Act → World → Prop} {X : Prop} {e : TypeId} (ty : TypeId) (hgd : o.guard = none) (hty : o.type = ty) (s x : Operand) (t u : TypeId)
  (ho : o.op = .call { callee := .builtin .append, args := #[s, x], argTypes := #[t, u] }) (ht : P.underlying t = some (.slice e)) (hu : P.underlying u = some .string) (hinfo : (P.info? e).map (fun i => (i.zero, i.size, i.bytes)) = some (some (.int .u8 0), 1, 1))
  (rlo : Nat) (a : Option Addr) (cap : Nat) (l : List Int) (hl : ∀ x ∈ l, U8 x) (hs : act.eval s = .slice a l.length cap) (happ : AppL EByte 1 e w rlo a cap l []) (hlo : rlo ≤ w.heap.size) (st : ByteArray) (hx : act.eval x = .string st) (hbytes : l.length + st.size ≤ 140737488355328)
  (h : ∀ a' cap' w', AppL EByte 1 e w' rlo a' cap' (l ++ byteL st) [] → Below rlo w w' → (∀ f, f < w.heap.size → (∀ k, (Value.slice a l.length cap).ownBlock = some k → f ≠ k) → w'.heap[f]? = w.heap[f]?) → w.heap.size ≤ w'.heap.size → K (act.put o.dst (.slice a' (l ++ byteL st).length cap')) w') : if Region.wanted o (yielded ops act.tmps) = true then Oper.wp P o act w K Q else X := by
 obtain ⟨a', c', w', hrun, r1, r2, r3, r4⟩ := run_appStr (P := P) w t u o.type ht hu hinfo rlo a cap l hl happ hlo st hbytes
 exact step_append_run w hgd s x t u ho _ _ hs hx _ _ hrun (h a' c' w' r1 r2 r3 r4)
set_option maxHeartbeats 4000000 in
theorem pt7 (n x : Int) (s : ByteArray) (l : List T) : PT (.mk 7 n x s l) := by
 intro a cap B w hr hwf hsz hB
 obtain ⟨hwk, hwn, hwx, hws⟩ := hwf
 simp only [cV, T.k, T.n, T.x, T.s, T.l] at hr hwk hwn hwx hws ⊢
 have hss : s.size ≤ 1048576 := by simp only [T.sz] at hsz; omega
 have HE := Lib.hid (show packT (.mk 7 n x s l) = hdL 3 s.size ++ byteL s from by rw [packT, if_neg (by omega), if_neg (by omega), if_neg (by omega), if_neg (by omega), if_neg (by omega), if_pos rfl])
 clear hr hwk hwn hwx hws hsz
 go_enter Tryz.func22, Tryz.ntmps22
 go_wp2_with fail
 generalize hW : (w.alloc (Obj.cells _ 26)).alloc (Obj.cells #[] 5) = W0
 have q1 : Is W0 w.heap.size 26 (cV (.mk 7 n x s l) a cap) := by subst hW; exact (Is.new _ _ _).alloc _
 have H0 := Lib.hid (show Below w.heap.size w W0 from by subst hW; exact below2 _ _ _)
 have hs0 : W0.heap.size = w.heap.size + 2 := by subst hW; simp
 clear hW
 obtain ⟨r0, r1, r2, r3, r4⟩ := q1.cells5
 have hl3 : w.heap.size < W0.heap.size := by omega
 refine tkW (W0.heap.size) W0 (fun hHeld => ?_)
 refine tkS 0 70 rfl ?_
 refine tkS 1 71 rfl ?_
 refine tkS 2 72 rfl ?_
 refine tkS 3 73 rfl ?_
 refine tkS 6 76 rfl ?_
 refine tkS 7 77 rfl ?_
 refine tkA 4 74 rfl (fun K hK => ?_)
 go_simp; (first | (go_at_call 73; refine (spec_PutHead0 3 (s.size : Int) kk _ _ ⟨by omega, by omega⟩).mono ?_; rintro e w3 ⟨a3, c3, rfl, happ3, hb3⟩; have HA3 := Lib.hid (happ3.less (show W0.heap.size ≤ _ by omega)); clear happ3; have hsz3 := hb3.size; have HU := Lib.hid (headL_u8 3 (s.size : Int) kk); have HLN := Lib.hid (headL_len 3 (s.size : Int) kk)) | (go_at_call 75; refine (spec_HeadForOk 3 (s.size : Int) _ (by omega) (by omega)).mono ?_; rintro e w2 ⟨⟨kk, rfl, hkk⟩, hb2⟩; have hsz2 := hb2.size; (try simp only [World.size_drew] at hsz2)) | (refine step_appS 22 rfl rfl _ _ _ _ rfl Tryz.underlying22 Tryz.underlying9 info_Byte2 W0.heap.size a3 c3 (headL 3 (s.size : Int) kk) HU.out rfl HA3.out (by have := (‹_ ∧ Below (W0.heap.size) W0 _›).2.size; first | omega | (simp only [World.size_drew] at this ⊢; omega)) s rfl (by have := HLN.out; omega) ?_; intro a4 c4 w4 happ4 hb4 hout4 hsz4)); go_wp2_with fail; refine tkK hK (fun hHeld => ?_); clear hK K
 refine tkA 5 75 rfl (fun K hK => ?_)
 focus (go_simp; (first | (go_at_call 73; refine (spec_PutHead0 3 (s.size : Int) kk _ _ ⟨by omega, by omega⟩).mono ?_; rintro e w3 ⟨a3, c3, rfl, happ3, hb3⟩; have HA3 := Lib.hid (happ3.less (show W0.heap.size ≤ _ by omega)); clear happ3; have hsz3 := hb3.size; have HU := Lib.hid (headL_u8 3 (s.size : Int) kk); have HLN := Lib.hid (headL_len 3 (s.size : Int) kk)) | (go_at_call 75; refine (spec_HeadForOk 3 (s.size : Int) _ (by omega) (by omega)).mono ?_; rintro e w2 ⟨⟨kk, rfl, hkk⟩, hb2⟩; have hsz2 := hb2.size; (try simp only [World.size_drew] at hsz2)) | (refine step_appS 22 rfl rfl _ _ _ _ rfl Tryz.underlying22 Tryz.underlying9 info_Byte2 W0.heap.size a3 c3 (headL 3 (s.size : Int) kk) HU.out rfl HA3.out (by have := (‹_ ∧ Below (W0.heap.size) W0 _›).2.size; first | omega | (simp only [World.size_drew] at this ⊢; omega)) s rfl (by have := HLN.out; omega) ?_; intro a4 c4 w4 happ4 hb4 hout4 hsz4)); go_wp2_with fail; refine tkK hK (fun hHeld => ?_); clear hK K)
 refine tkA 8 78 rfl (fun K hK => ?_)
 focus ((first | (go_at_call 73; refine (spec_PutHead0 3 (s.size : Int) kk _ _ ⟨by omega, by omega⟩).mono ?_; rintro e w3 ⟨a3, c3, rfl, happ3, hb3⟩; have HA3 := Lib.hid (happ3.less (show W0.heap.size ≤ _ by omega)); clear happ3; have hsz3 := hb3.size; have HU := Lib.hid (headL_u8 3 (s.size : Int) kk); have HLN := Lib.hid (headL_len 3 (s.size : Int) kk)) | (go_at_call 75; refine (spec_HeadForOk 3 (s.size : Int) _ (by omega) (by omega)).mono ?_; rintro e w2 ⟨⟨kk, rfl, hkk⟩, hb2⟩; have hsz2 := hb2.size; (try simp only [World.size_drew] at hsz2)) | (refine step_appS 22 rfl rfl _ _ _ _ rfl Tryz.underlying22 Tryz.underlying9 info_Byte2 W0.heap.size a3 c3 (headL 3 (s.size : Int) kk) HU.out rfl HA3.out (by have := (‹_ ∧ Below (W0.heap.size) W0 _›).2.size; first | omega | (simp only [World.size_drew] at this ⊢; omega)) s rfl (by have := HLN.out; omega) ?_; intro a4 c4 w4 happ4 hb4 hout4 hsz4)); refine tkK hK (fun hHeld => ?_); clear hK K)
 refine tkS 9 2 rfl ?_
 refine tkE ?_
 all_goals
  have hBB := (‹_ ∧ Below (W0.heap.size) W0 _›).2
  go_wp2_with fail
  go_ret
  exact ⟨a4, c4, ret_sl (by rw [HE.out, hkk, List.length_append]), by rw [HE.out, hkk]; exact happ4.less (by omega), H0.out.trans (hBB.mono (by omega))⟩
set_option maxHeartbeats 4000000 in
theorem pt8 (n x : Int) (s : ByteArray) (l : List T) : PT (.mk 8 n x s l) := by
 intro a cap B w hr hwf hsz hB
 obtain ⟨hwk, hwn, hwx, hws⟩ := hwf
 simp only [cV, T.k, T.n, T.x, T.s, T.l] at hr hwk hwn hwx hws ⊢
 have hss : s.size ≤ 1048576 := by simp only [T.sz] at hsz; omega
 have HE := Lib.hid (show packT (.mk 8 n x s l) = hdL 2 s.size ++ byteL s from by rw [packT, if_neg (by omega), if_neg (by omega), if_neg (by omega), if_neg (by omega), if_neg (by omega), if_neg (by omega), if_pos rfl])
 clear hr hwk hwn hwx hws hsz
 go_enter Tryz.func22, Tryz.ntmps22
 go_wp2_with fail
 generalize hW : (w.alloc (Obj.cells _ 26)).alloc (Obj.cells #[] 5) = W0
 have q1 : Is W0 w.heap.size 26 (cV (.mk 8 n x s l) a cap) := by subst hW; exact (Is.new _ _ _).alloc _
 have H0 := Lib.hid (show Below w.heap.size w W0 from by subst hW; exact below2 _ _ _)
 have hs0 : W0.heap.size = w.heap.size + 2 := by subst hW; simp
 clear hW
 obtain ⟨r0, r1, r2, r3, r4⟩ := q1.cells5
 have hl3 : w.heap.size < W0.heap.size := by omega
 refine tkW (W0.heap.size) W0 (fun hHeld => ?_)
 refine tkS 0 81 rfl ?_
 refine tkS 1 82 rfl ?_
 refine tkS 2 83 rfl ?_
 refine tkS 3 84 rfl ?_
 refine tkS 6 87 rfl ?_
 refine tkS 7 88 rfl ?_
 refine tkA 4 85 rfl (fun K hK => ?_)
 go_simp; (first | (go_at_call 73; refine (spec_PutHead0 2 (s.size : Int) kk _ _ ⟨by omega, by omega⟩).mono ?_; rintro e w3 ⟨a3, c3, rfl, happ3, hb3⟩; have HA3 := Lib.hid (happ3.less (show W0.heap.size ≤ _ by omega)); clear happ3; have hsz3 := hb3.size; have HU := Lib.hid (headL_u8 2 (s.size : Int) kk); have HLN := Lib.hid (headL_len 2 (s.size : Int) kk)) | (go_at_call 75; refine (spec_HeadForOk 2 (s.size : Int) _ (by omega) (by omega)).mono ?_; rintro e w2 ⟨⟨kk, rfl, hkk⟩, hb2⟩; have hsz2 := hb2.size; (try simp only [World.size_drew] at hsz2)) | (refine step_appS 22 rfl rfl _ _ _ _ rfl Tryz.underlying22 Tryz.underlying9 info_Byte2 W0.heap.size a3 c3 (headL 2 (s.size : Int) kk) HU.out rfl HA3.out (by have := (‹_ ∧ Below (W0.heap.size) W0 _›).2.size; first | omega | (simp only [World.size_drew] at this ⊢; omega)) s rfl (by have := HLN.out; omega) ?_; intro a4 c4 w4 happ4 hb4 hout4 hsz4)); go_wp2_with fail; refine tkK hK (fun hHeld => ?_); clear hK K
 refine tkA 5 86 rfl (fun K hK => ?_)
 focus (go_simp; (first | (go_at_call 73; refine (spec_PutHead0 2 (s.size : Int) kk _ _ ⟨by omega, by omega⟩).mono ?_; rintro e w3 ⟨a3, c3, rfl, happ3, hb3⟩; have HA3 := Lib.hid (happ3.less (show W0.heap.size ≤ _ by omega)); clear happ3; have hsz3 := hb3.size; have HU := Lib.hid (headL_u8 2 (s.size : Int) kk); have HLN := Lib.hid (headL_len 2 (s.size : Int) kk)) | (go_at_call 75; refine (spec_HeadForOk 2 (s.size : Int) _ (by omega) (by omega)).mono ?_; rintro e w2 ⟨⟨kk, rfl, hkk⟩, hb2⟩; have hsz2 := hb2.size; (try simp only [World.size_drew] at hsz2)) | (refine step_appS 22 rfl rfl _ _ _ _ rfl Tryz.underlying22 Tryz.underlying9 info_Byte2 W0.heap.size a3 c3 (headL 2 (s.size : Int) kk) HU.out rfl HA3.out (by have := (‹_ ∧ Below (W0.heap.size) W0 _›).2.size; first | omega | (simp only [World.size_drew] at this ⊢; omega)) s rfl (by have := HLN.out; omega) ?_; intro a4 c4 w4 happ4 hb4 hout4 hsz4)); go_wp2_with fail; refine tkK hK (fun hHeld => ?_); clear hK K)
 refine tkA 8 89 rfl (fun K hK => ?_)
 focus ((first | (go_at_call 73; refine (spec_PutHead0 2 (s.size : Int) kk _ _ ⟨by omega, by omega⟩).mono ?_; rintro e w3 ⟨a3, c3, rfl, happ3, hb3⟩; have HA3 := Lib.hid (happ3.less (show W0.heap.size ≤ _ by omega)); clear happ3; have hsz3 := hb3.size; have HU := Lib.hid (headL_u8 2 (s.size : Int) kk); have HLN := Lib.hid (headL_len 2 (s.size : Int) kk)) | (go_at_call 75; refine (spec_HeadForOk 2 (s.size : Int) _ (by omega) (by omega)).mono ?_; rintro e w2 ⟨⟨kk, rfl, hkk⟩, hb2⟩; have hsz2 := hb2.size; (try simp only [World.size_drew] at hsz2)) | (refine step_appS 22 rfl rfl _ _ _ _ rfl Tryz.underlying22 Tryz.underlying9 info_Byte2 W0.heap.size a3 c3 (headL 2 (s.size : Int) kk) HU.out rfl HA3.out (by have := (‹_ ∧ Below (W0.heap.size) W0 _›).2.size; first | omega | (simp only [World.size_drew] at this ⊢; omega)) s rfl (by have := HLN.out; omega) ?_; intro a4 c4 w4 happ4 hb4 hout4 hsz4)); refine tkK hK (fun hHeld => ?_); clear hK K)
 refine tkS 9 2 rfl ?_
 refine tkE ?_
 all_goals
  have hBB := (‹_ ∧ Below (W0.heap.size) W0 _›).2
  go_wp2_with fail
  go_ret
  exact ⟨a4, c4, ret_sl (by rw [HE.out, hkk, List.length_append]), by rw [HE.out, hkk]; exact happ4.less (by omega), H0.out.trans (hBB.mono (by omega))⟩
end Go.Proofs.YtggdenkmohnijaaGreatDoor
