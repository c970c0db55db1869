/- Texts of this proof, merged: Pack4. No condition beyond what each theorem states. -/
import Derived.Test.YtggdenkmohnijaaGreatDoorZO13
set_option linter.unusedSimpArgs false
set_option linter.unnecessarySimpa false
namespace Go.Proofs.YtggdenkmohnijaaGreatDoor
open Go.ChangeShapes Go.WideShapes Go.ChangeAt Go.RowKit Go.Joins
set_option linter.unusedVariables false
set_option maxRecDepth 100000
theorem impl_flag (b : Bool) (w : World) : Calls Tryz.prog 130 #[.bool b] w fun e w' => e = .returned (.int .i64 (if b = true then 1 else 0)) ∧ w' = w := by
 cases b
 ·go_enter Tryz.func130, Tryz.ntmps130
  go_wp2
  go_ret
  exact ⟨rfl, rfl⟩
 ·go_enter Tryz.func130, Tryz.ntmps130
  go_wp2
  go_ret
  exact ⟨rfl, rfl⟩
set_option maxHeartbeats 4000000 in
theorem pv1 (k n x : Int) (s : ByteArray) (l : List T) (hk : k = 1) : PV (.mk k n x s l) := by
 intro b a cap B g w hr hwf hsz hB hp hbu hz
 obtain ⟨hwk, hwn, hwx, hws⟩ := hwf
 simp only [cV, T.k, T.n, T.x, T.s, T.l] at hr hwk hwn hwx hws ⊢
 have hszl : T.szL l ≤ 1048576 := by simp only [T.sz] at hsz; omega
 have hss : s.size ≤ 1048576 := by simp only [T.sz] at hsz; omega
 have hz2 : b.length + 10 + 10 * T.szL l ≤ 1073741824 := by simp only [T.sz] at hz; omega
 obtain ⟨hl1, hl2⟩ := hr.len
 have hl0 := T.length_le_szL l
 have HN := Lib.hid hwn
 have HX := Lib.hid hwx
 have HU := Lib.hid hbu
 have hg := hp.lt
 have q0 := Is.new w (cV (.mk k n x s l) a cap) 26
 have HB0 := Lib.hid (below1 w (.cells (cV (.mk k n x s l) a cap) 26))
 simp only [cV, T.k, T.n, T.x, T.s, T.l] at q0 HB0
 have HP0 := Lib.hid (hp.below HB0.out)
 have HR0 := Lib.hid (hr.below (HB0.out.mono (by omega)) hB)
 obtain ⟨c0, c1, c2', c3, c4⟩ := q0.cells5
 have lg := q0.lt
 clear q0 hr hp hbu hsz hz hws hwx
 subst hk
 have HE := Lib.hid (show packT (.mk 1 n x s l) = headL 7 22 0 from by rw [packT, if_pos rfl])
 clear hwk
 go_enter Tryz.func72, Tryz.ntmps72
 go_wp2_with fail
 refine (impl_packHead b 7 22 0 g _ HP0.out ⟨by omega, by omega⟩ (by omega)).mono ?_
 rintro ee w9 ⟨rfl, hp9, hb9⟩
 have HP9 := Lib.hid hp9
 have HB9 := Lib.hid ((HB0.out.mono (by omega)).trans hb9)
 clear hp9 hb9
 go_wp2_with fail
 (first | go_end0 | refine bodyPost_ret (results_none rfl _ _ _) rfl ?_)
 exact ⟨rfl, by rw [HE.out]; exact HP9.out, HB9.out⟩
set_option maxHeartbeats 4000000 in
theorem pv2 (k n x : Int) (s : ByteArray) (l : List T) (hk : k = 2) : PV (.mk k n x s l) := by
 intro b a cap B g w hr hwf hsz hB hp hbu hz
 obtain ⟨hwk, hwn, hwx, hws⟩ := hwf
 simp only [cV, T.k, T.n, T.x, T.s, T.l] at hr hwk hwn hwx hws ⊢
 have hszl : T.szL l ≤ 1048576 := by simp only [T.sz] at hsz; omega
 have hss : s.size ≤ 1048576 := by simp only [T.sz] at hsz; omega
 have hz2 : b.length + 10 + 10 * T.szL l ≤ 1073741824 := by simp only [T.sz] at hz; omega
 obtain ⟨hl1, hl2⟩ := hr.len
 have hl0 := T.length_le_szL l
 have HN := Lib.hid hwn
 have HX := Lib.hid hwx
 have HU := Lib.hid hbu
 have hg := hp.lt
 have q0 := Is.new w (cV (.mk k n x s l) a cap) 26
 have HB0 := Lib.hid (below1 w (.cells (cV (.mk k n x s l) a cap) 26))
 simp only [cV, T.k, T.n, T.x, T.s, T.l] at q0 HB0
 have HP0 := Lib.hid (hp.below HB0.out)
 have HR0 := Lib.hid (hr.below (HB0.out.mono (by omega)) hB)
 obtain ⟨c0, c1, c2', c3, c4⟩ := q0.cells5
 have lg := q0.lt
 clear q0 hr hp hbu hsz hz hws hwx
 subst hk
 clear hwk
 by_cases h1 : n = 1
 ·subst h1
  have HE := Lib.hid (show packT (.mk 2 1 x s l) = headL 7 21 0 from by rw [packT, if_neg (by omega), if_pos rfl, if_pos rfl])
  go_enter Tryz.func72, Tryz.ntmps72
  go_wp2_with (go_at_call 130; refine (impl_flag true _).mono ?_; rintro ee w2 ⟨rfl, rfl⟩; (try rw [if_pos rfl]))
  refine (impl_packHead b 7 21 0 g _ HP0.out ⟨by omega, by omega⟩ (by omega)).mono ?_
  rintro ee w9 ⟨rfl, hp9, hb9⟩
  have HP9 := Lib.hid hp9
  have HB9 := Lib.hid ((HB0.out.mono (by omega)).trans hb9)
  clear hp9 hb9
  go_wp2_with fail
  (first | go_end0 | refine bodyPost_ret (results_none rfl _ _ _) rfl ?_)
  exact ⟨rfl, by rw [HE.out]; exact HP9.out, HB9.out⟩
 ·have HE := Lib.hid (show packT (.mk 2 n x s l) = headL 7 20 0 from by rw [packT, if_neg (by omega), if_pos rfl, if_neg h1])
  have hne : (n == 1) = false := by simp [h1]
  go_enter Tryz.func72, Tryz.ntmps72
  go_wp2_with (go_at_call 130; refine (impl_flag false _).mono ?_; rintro ee w2 ⟨rfl, rfl⟩; (try rw [if_neg Bool.false_ne_true]))
  refine (impl_packHead b 7 20 0 g _ HP0.out ⟨by omega, by omega⟩ (by omega)).mono ?_
  rintro ee w9 ⟨rfl, hp9, hb9⟩
  have HP9 := Lib.hid hp9
  have HB9 := Lib.hid ((HB0.out.mono (by omega)).trans hb9)
  clear hp9 hb9
  go_wp2_with fail
  (first | go_end0 | refine bodyPost_ret (results_none rfl _ _ _) rfl ?_)
  exact ⟨rfl, by rw [HE.out]; exact HP9.out, HB9.out⟩
set_option maxHeartbeats 4000000 in
theorem pv3 (k n x : Int) (s : ByteArray) (l : List T) (hk : k = 3) : PV (.mk k n x s l) := by
 intro b a cap B g w hr hwf hsz hB hp hbu hz
 obtain ⟨hwk, hwn, hwx, hws⟩ := hwf
 simp only [cV, T.k, T.n, T.x, T.s, T.l] at hr hwk hwn hwx hws ⊢
 have hszl : T.szL l ≤ 1048576 := by simp only [T.sz] at hsz; omega
 have hss : s.size ≤ 1048576 := by simp only [T.sz] at hsz; omega
 have hz2 : b.length + 10 + 10 * T.szL l ≤ 1073741824 := by simp only [T.sz] at hz; omega
 obtain ⟨hl1, hl2⟩ := hr.len
 have hl0 := T.length_le_szL l
 have HN := Lib.hid hwn
 have HX := Lib.hid hwx
 have HU := Lib.hid hbu
 have hg := hp.lt
 have q0 := Is.new w (cV (.mk k n x s l) a cap) 26
 have HB0 := Lib.hid (below1 w (.cells (cV (.mk k n x s l) a cap) 26))
 simp only [cV, T.k, T.n, T.x, T.s, T.l] at q0 HB0
 have HP0 := Lib.hid (hp.below HB0.out)
 have HR0 := Lib.hid (hr.below (HB0.out.mono (by omega)) hB)
 obtain ⟨c0, c1, c2', c3, c4⟩ := q0.cells5
 have lg := q0.lt
 clear q0 hr hp hbu hsz hz hws hwx
 subst hk
 clear hwk
 by_cases h0 : -1000000000000000 ≤ n ∧ n ≤ 1000000000000000
 ·have DN := Lib.hid (show decide (-1000000000000000 ≤ n ∧ n ≤ 1000000000000000) = true from decide_eq_true h0)
  obtain ⟨l1, l2⟩ := h0
  by_cases h1 : n < 0
  ·have HE := Lib.hid (show packT (.mk 3 n x s l) = hdL 1 (-1 - n) from by rw [packT, if_neg (by omega), if_neg (by omega), if_pos rfl, if_pos ⟨l1, l2⟩, if_pos h1])
   go_enter Tryz.func72, Tryz.ntmps72
   go_wp2_with (go_at_call 125; refine (impl_withinE _ _ _ _).mono ?_; rintro ee w2 ⟨rfl, rfl⟩; rw [DN.out])
   refine (impl_packNumber b 1 (-1 - n) g _ HP0.out (by omega) (by omega) (by omega)).mono ?_
   rintro ee w9 ⟨rfl, hp9, hb9⟩
   have HP9 := Lib.hid hp9
   have HB9 := Lib.hid ((HB0.out.mono (by omega)).trans hb9)
   clear hp9 hb9
   go_wp2_with fail
   (first | go_end0 | refine bodyPost_ret (results_none rfl _ _ _) rfl ?_)
   exact ⟨rfl, by rw [HE.out]; exact HP9.out, HB9.out⟩
  ·have HE := Lib.hid (show packT (.mk 3 n x s l) = hdL 0 n from by rw [packT, if_neg (by omega), if_neg (by omega), if_pos rfl, if_pos ⟨l1, l2⟩, if_neg h1])
   go_enter Tryz.func72, Tryz.ntmps72
   go_wp2_with (go_at_call 125; refine (impl_withinE _ _ _ _).mono ?_; rintro ee w2 ⟨rfl, rfl⟩; rw [DN.out])
   refine (impl_packNumber b 0 n g _ HP0.out (by omega) (by omega) (by omega)).mono ?_
   rintro ee w9 ⟨rfl, hp9, hb9⟩
   have HP9 := Lib.hid hp9
   have HB9 := Lib.hid ((HB0.out.mono (by omega)).trans hb9)
   clear hp9 hb9
   go_wp2_with fail
   (first | go_end0 | refine bodyPost_ret (results_none rfl _ _ _) rfl ?_)
   exact ⟨rfl, by rw [HE.out]; exact HP9.out, HB9.out⟩
 ·have DN := Lib.hid (show decide (-1000000000000000 ≤ n ∧ n ≤ 1000000000000000) = false from decide_eq_false h0)
  have HE := Lib.hid (show packT (.mk 3 n x s l) = [] from by rw [packT, if_neg (by omega), if_neg (by omega), if_pos rfl, if_neg h0])
  clear h0
  go_enter Tryz.func72, Tryz.ntmps72
  go_wp2_with (go_at_call 125; refine (impl_withinE _ _ _ _).mono ?_; rintro ee w2 ⟨rfl, rfl⟩; rw [DN.out])
  (first | go_end0 | refine bodyPost_ret (results_none rfl _ _ _) rfl ?_)
  exact ⟨rfl, by rw [HE.out, List.append_nil]; exact HP0.out, HB0.out.mono (by omega)⟩
set_option maxHeartbeats 4000000 in
theorem pv4 (k n x : Int) (s : ByteArray) (l : List T) (hk : k = 4) : PV (.mk k n x s l) := by
 intro b a cap B g w hr hwf hsz hB hp hbu hz
 obtain ⟨hwk, hwn, hwx, hws⟩ := hwf
 simp only [cV, T.k, T.n, T.x, T.s, T.l] at hr hwk hwn hwx hws ⊢
 have hszl : T.szL l ≤ 1048576 := by simp only [T.sz] at hsz; omega
 have hss : s.size ≤ 1048576 := by simp only [T.sz] at hsz; omega
 have hz2 : b.length + 10 + 10 * T.szL l ≤ 1073741824 := by simp only [T.sz] at hz; omega
 obtain ⟨hl1, hl2⟩ := hr.len
 have hl0 := T.length_le_szL l
 have HN := Lib.hid hwn
 have HX := Lib.hid hwx
 have HU := Lib.hid hbu
 have hg := hp.lt
 have q0 := Is.new w (cV (.mk k n x s l) a cap) 26
 have HB0 := Lib.hid (below1 w (.cells (cV (.mk k n x s l) a cap) 26))
 simp only [cV, T.k, T.n, T.x, T.s, T.l] at q0 HB0
 have HP0 := Lib.hid (hp.below HB0.out)
 have HR0 := Lib.hid (hr.below (HB0.out.mono (by omega)) hB)
 obtain ⟨c0, c1, c2', c3, c4⟩ := q0.cells5
 have lg := q0.lt
 clear q0 hr hp hbu hsz hz hws hwx
 subst hk
 have HE := Lib.hid (show packT (.mk 4 n x s l) = headL 7 (fltBitsD n x) 4 from by rw [packT, if_neg (by omega), if_neg (by omega), if_neg (by omega), if_pos rfl])
 clear hwk
 go_enter Tryz.func72, Tryz.ntmps72
 go_wp2_with fail
 refine (impl_FltBits n x _ HN.out HX.out).mono ?_
 rintro ee w2 ⟨rfl, hb2⟩
 have hs2 := hb2.size
 have HP2 := Lib.hid (HP0.out.below hb2)
 have HB0 := Lib.hid (HB0.out.trans (hb2.mono (by omega)))
 have hfb := fltBitsD_in n x
 clear hb2
 go_wp2_with fail
 refine (impl_packHead b 7 (fltBitsD n x) 4 g _ HP2.out ⟨by omega, by omega⟩ (by omega)).mono ?_
 rintro ee w9 ⟨rfl, hp9, hb9⟩
 have HP9 := Lib.hid hp9
 have HB9 := Lib.hid ((HB0.out.mono (by omega)).trans hb9)
 clear hp9 hb9
 go_wp2_with fail
 (first | go_end0 | refine bodyPost_ret (results_none rfl _ _ _) rfl ?_)
 exact ⟨rfl, by rw [HE.out]; exact HP9.out, HB9.out⟩
set_option maxHeartbeats 4000000 in
theorem pv5 (k n x : Int) (s : ByteArray) (l : List T) (hk : k = 5) : PV (.mk k n x s l) := by
 intro b a cap B g w hr hwf hsz hB hp hbu hz
 obtain ⟨hwk, hwn, hwx, hws⟩ := hwf
 simp only [cV, T.k, T.n, T.x, T.s, T.l] at hr hwk hwn hwx hws ⊢
 have hszl : T.szL l ≤ 1048576 := by simp only [T.sz] at hsz; omega
 have hss : s.size ≤ 1048576 := by simp only [T.sz] at hsz; omega
 have hz2 : b.length + 10 + 10 * T.szL l ≤ 1073741824 := by simp only [T.sz] at hz; omega
 obtain ⟨hl1, hl2⟩ := hr.len
 have hl0 := T.length_le_szL l
 have HN := Lib.hid hwn
 have HX := Lib.hid hwx
 have HU := Lib.hid hbu
 have hg := hp.lt
 have q0 := Is.new w (cV (.mk k n x s l) a cap) 26
 have HB0 := Lib.hid (below1 w (.cells (cV (.mk k n x s l) a cap) 26))
 simp only [cV, T.k, T.n, T.x, T.s, T.l] at q0 HB0
 have HP0 := Lib.hid (hp.below HB0.out)
 have HR0 := Lib.hid (hr.below (HB0.out.mono (by omega)) hB)
 obtain ⟨c0, c1, c2', c3, c4⟩ := q0.cells5
 have lg := q0.lt
 clear q0 hr hp hbu hsz hz hws hwx
 subst hk
 clear hwk
 by_cases h0 : 0 ≤ n ∧ n ≤ 2
 ·have DN := Lib.hid (show decide (0 ≤ n ∧ n ≤ 2) = true from decide_eq_true h0)
  obtain ⟨l1, l2⟩ := h0
  have HE := Lib.hid (show packT (.mk 5 n x s l) = headL 7 (32 + n) 1 from by rw [packT, if_neg (by omega), if_neg (by omega), if_neg (by omega), if_neg (by omega), if_pos rfl, if_pos ⟨l1, l2⟩])
  go_enter Tryz.func72, Tryz.ntmps72
  go_wp2_with (go_at_call 125; refine (impl_withinE _ _ _ _).mono ?_; rintro ee w2 ⟨rfl, rfl⟩; rw [DN.out])
  refine (impl_packHead b 7 (32 + n) 1 g _ HP0.out ⟨by omega, by omega⟩ (by omega)).mono ?_
  rintro ee w9 ⟨rfl, hp9, hb9⟩
  have HP9 := Lib.hid hp9
  have HB9 := Lib.hid ((HB0.out.mono (by omega)).trans hb9)
  clear hp9 hb9
  go_wp2_with fail
  (first | go_end0 | refine bodyPost_ret (results_none rfl _ _ _) rfl ?_)
  exact ⟨rfl, by rw [HE.out]; exact HP9.out, HB9.out⟩
 ·have DN := Lib.hid (show decide (0 ≤ n ∧ n ≤ 2) = false from decide_eq_false h0)
  have HE := Lib.hid (show packT (.mk 5 n x s l) = [] from by rw [packT, if_neg (by omega), if_neg (by omega), if_neg (by omega), if_neg (by omega), if_pos rfl, if_neg h0])
  clear h0
  go_enter Tryz.func72, Tryz.ntmps72
  go_wp2_with (go_at_call 125; refine (impl_withinE _ _ _ _).mono ?_; rintro ee w2 ⟨rfl, rfl⟩; rw [DN.out])
  (first | go_end0 | refine bodyPost_ret (results_none rfl _ _ _) rfl ?_)
  exact ⟨rfl, by rw [HE.out, List.append_nil]; exact HP0.out, HB0.out.mono (by omega)⟩
set_option maxHeartbeats 4000000 in
theorem pv7 (k n x : Int) (s : ByteArray) (l : List T) (hk : k = 7) : PV (.mk k n x s l) := by
 intro b a cap B g w hr hwf hsz hB hp hbu hz
 obtain ⟨hwk, hwn, hwx, hws⟩ := hwf
 simp only [cV, T.k, T.n, T.x, T.s, T.l] at hr hwk hwn hwx hws ⊢
 have hszl : T.szL l ≤ 1048576 := by simp only [T.sz] at hsz; omega
 have hss : s.size ≤ 1048576 := by simp only [T.sz] at hsz; omega
 have hz2 : b.length + 10 + 10 * T.szL l ≤ 1073741824 := by simp only [T.sz] at hz; omega
 obtain ⟨hl1, hl2⟩ := hr.len
 have hl0 := T.length_le_szL l
 have HN := Lib.hid hwn
 have HX := Lib.hid hwx
 have HU := Lib.hid hbu
 have hg := hp.lt
 have q0 := Is.new w (cV (.mk k n x s l) a cap) 26
 have HB0 := Lib.hid (below1 w (.cells (cV (.mk k n x s l) a cap) 26))
 simp only [cV, T.k, T.n, T.x, T.s, T.l] at q0 HB0
 have HP0 := Lib.hid (hp.below HB0.out)
 have HR0 := Lib.hid (hr.below (HB0.out.mono (by omega)) hB)
 obtain ⟨c0, c1, c2', c3, c4⟩ := q0.cells5
 have lg := q0.lt
 clear q0 hr hp hbu hsz hz hws hwx
 subst hk
 have HE := Lib.hid (show packT (.mk 7 n x s l) = hdL 3 s.size ++ byteL s from by rw [packT, if_neg (by omega), if_neg (by omega), if_neg (by omega), if_neg (by omega), if_neg (by omega), if_pos rfl])
 clear hwk
 go_enter Tryz.func72, Tryz.ntmps72
 go_wp2_with fail
 refine (impl_packText b 3 s g _ HP0.out ⟨by omega, by omega⟩ HU.out (by omega) (by omega)).mono ?_
 rintro ee w9 ⟨rfl, hp9, hb9⟩
 have HP9 := Lib.hid hp9
 have HB9 := Lib.hid ((HB0.out.mono (by omega)).trans hb9)
 clear hp9 hb9
 go_wp2_with fail
 (first | go_end0 | refine bodyPost_ret (results_none rfl _ _ _) rfl ?_)
 exact ⟨rfl, by rw [HE.out]; exact HP9.out, HB9.out⟩
set_option maxHeartbeats 4000000 in
theorem pv8 (k n x : Int) (s : ByteArray) (l : List T) (hk : k = 8) : PV (.mk k n x s l) := by
 intro b a cap B g w hr hwf hsz hB hp hbu hz
 obtain ⟨hwk, hwn, hwx, hws⟩ := hwf
 simp only [cV, T.k, T.n, T.x, T.s, T.l] at hr hwk hwn hwx hws ⊢
 have hszl : T.szL l ≤ 1048576 := by simp only [T.sz] at hsz; omega
 have hss : s.size ≤ 1048576 := by simp only [T.sz] at hsz; omega
 have hz2 : b.length + 10 + 10 * T.szL l ≤ 1073741824 := by simp only [T.sz] at hz; omega
 obtain ⟨hl1, hl2⟩ := hr.len
 have hl0 := T.length_le_szL l
 have HN := Lib.hid hwn
 have HX := Lib.hid hwx
 have HU := Lib.hid hbu
 have hg := hp.lt
 have q0 := Is.new w (cV (.mk k n x s l) a cap) 26
 have HB0 := Lib.hid (below1 w (.cells (cV (.mk k n x s l) a cap) 26))
 simp only [cV, T.k, T.n, T.x, T.s, T.l] at q0 HB0
 have HP0 := Lib.hid (hp.below HB0.out)
 have HR0 := Lib.hid (hr.below (HB0.out.mono (by omega)) hB)
 obtain ⟨c0, c1, c2', c3, c4⟩ := q0.cells5
 have lg := q0.lt
 clear q0 hr hp hbu hsz hz hws hwx
 subst hk
 have HE := Lib.hid (show packT (.mk 8 n x s l) = hdL 2 s.size ++ byteL s from by rw [packT, if_neg (by omega), if_neg (by omega), if_neg (by omega), if_neg (by omega), if_neg (by omega), if_neg (by omega), if_pos rfl])
 clear hwk
 go_enter Tryz.func72, Tryz.ntmps72
 go_wp2_with fail
 refine (impl_packText b 2 s g _ HP0.out ⟨by omega, by omega⟩ HU.out (by omega) (by omega)).mono ?_
 rintro ee w9 ⟨rfl, hp9, hb9⟩
 have HP9 := Lib.hid hp9
 have HB9 := Lib.hid ((HB0.out.mono (by omega)).trans hb9)
 clear hp9 hb9
 go_wp2_with fail
 (first | go_end0 | refine bodyPost_ret (results_none rfl _ _ _) rfl ?_)
 exact ⟨rfl, by rw [HE.out]; exact HP9.out, HB9.out⟩
set_option maxHeartbeats 4000000 in
theorem pv9 (k n x : Int) (s : ByteArray) (l : List T) (IH : ∀ t ∈ l, PV t) (hk : k = 9) : PV (.mk k n x s l) := by
 intro b a cap B g w hr hwf hsz hB hp hbu hz
 obtain ⟨hwk, hwn, hwx, hws⟩ := hwf
 simp only [cV, T.k, T.n, T.x, T.s, T.l] at hr hwk hwn hwx hws ⊢
 have hszl : T.szL l ≤ 1048576 := by simp only [T.sz] at hsz; omega
 have hss : s.size ≤ 1048576 := by simp only [T.sz] at hsz; omega
 have hz2 : b.length + 10 + 10 * T.szL l ≤ 1073741824 := by simp only [T.sz] at hz; omega
 obtain ⟨hl1, hl2⟩ := hr.len
 have hl0 := T.length_le_szL l
 have HN := Lib.hid hwn
 have HX := Lib.hid hwx
 have HU := Lib.hid hbu
 have hg := hp.lt
 have q0 := Is.new w (cV (.mk k n x s l) a cap) 26
 have HB0 := Lib.hid (below1 w (.cells (cV (.mk k n x s l) a cap) 26))
 simp only [cV, T.k, T.n, T.x, T.s, T.l] at q0 HB0
 have HP0 := Lib.hid (hp.below HB0.out)
 have HR0 := Lib.hid (hr.below (HB0.out.mono (by omega)) hB)
 obtain ⟨c0, c1, c2', c3, c4⟩ := q0.cells5
 have lg := q0.lt
 clear q0 hr hp hbu hsz hz hws hwx
 subst hk
 have HE := Lib.hid (show packT (.mk 9 n x s l) = hdL 4 l.length ++ packTs l from by rw [packT, if_neg (by omega), if_neg (by omega), if_neg (by omega), if_neg (by omega), if_neg (by omega), if_neg (by omega), if_neg (by omega), if_pos rfl])
 clear hwk
 have HI := Lib.hid IH
 go_enter Tryz.func72, Tryz.ntmps72
 go_wp2_with fail
 refine (impl_packElems l HI b 4 l.length a cap B g _ HR0.out hszl hB HP0.out ⟨by omega, by omega⟩ (by omega) HU.out (by omega)).mono ?_
 rintro ee w9 ⟨rfl, hp9, hb9⟩
 have HP9 := Lib.hid hp9
 have HB9 := Lib.hid ((HB0.out.mono (by omega)).trans hb9)
 clear hp9 hb9
 go_wp2_with fail
 (first | go_end0 | refine bodyPost_ret (results_none rfl _ _ _) rfl ?_)
 exact ⟨rfl, by rw [HE.out]; exact HP9.out, HB9.out⟩
set_option maxHeartbeats 4000000 in
theorem pv10 (k n x : Int) (s : ByteArray) (l : List T) (IH : ∀ t ∈ l, PV t) (hk : k = 10) : PV (.mk k n x s l) := by
 intro b a cap B g w hr hwf hsz hB hp hbu hz
 obtain ⟨hwk, hwn, hwx, hws⟩ := hwf
 simp only [cV, T.k, T.n, T.x, T.s, T.l] at hr hwk hwn hwx hws ⊢
 have hszl : T.szL l ≤ 1048576 := by simp only [T.sz] at hsz; omega
 have hss : s.size ≤ 1048576 := by simp only [T.sz] at hsz; omega
 have hz2 : b.length + 10 + 10 * T.szL l ≤ 1073741824 := by simp only [T.sz] at hz; omega
 obtain ⟨hl1, hl2⟩ := hr.len
 have hl0 := T.length_le_szL l
 have HN := Lib.hid hwn
 have HX := Lib.hid hwx
 have HU := Lib.hid hbu
 have hg := hp.lt
 have q0 := Is.new w (cV (.mk k n x s l) a cap) 26
 have HB0 := Lib.hid (below1 w (.cells (cV (.mk k n x s l) a cap) 26))
 simp only [cV, T.k, T.n, T.x, T.s, T.l] at q0 HB0
 have HP0 := Lib.hid (hp.below HB0.out)
 have HR0 := Lib.hid (hr.below (HB0.out.mono (by omega)) hB)
 obtain ⟨c0, c1, c2', c3, c4⟩ := q0.cells5
 have lg := q0.lt
 clear q0 hr hp hbu hsz hz hws hwx
 subst hk
 have HE := Lib.hid (show packT (.mk 10 n x s l) = hdL 5 ((l.length / 2 : Nat) : Int) ++ packTs l from by rw [packT, if_neg (by omega), if_neg (by omega), if_neg (by omega), if_neg (by omega), if_neg (by omega), if_neg (by omega), if_neg (by omega), if_neg (by omega), if_pos rfl])
 clear hwk
 have hq : Int.tdiv (l.length : Int) 2 = ((l.length / 2 : Nat) : Int) := by rw [Int.tdiv_eq_ediv_of_nonneg (by omega)]; omega
 have HI := Lib.hid IH
 go_enter Tryz.func72, Tryz.ntmps72
 go_wp2_with fail
 refine (impl_packElems l HI b 5 ((l.length / 2 : Nat) : Int) a cap B g _ HR0.out hszl hB HP0.out ⟨by omega, by omega⟩ (by omega) HU.out (by omega)).mono ?_
 rintro ee w9 ⟨rfl, hp9, hb9⟩
 have HP9 := Lib.hid hp9
 have HB9 := Lib.hid ((HB0.out.mono (by omega)).trans hb9)
 clear hp9 hb9
 go_wp2_with fail
 (first | go_end0 | refine bodyPost_ret (results_none rfl _ _ _) rfl ?_)
 exact ⟨rfl, by rw [HE.out]; exact HP9.out, HB9.out⟩
set_option maxHeartbeats 4000000 in
theorem pv11 (k n x : Int) (s : ByteArray) (l : List T) (IH : ∀ t ∈ l, PV t) (hk : k = 11) : PV (.mk k n x s l) := by
 intro b a cap B g w hr hwf hsz hB hp hbu hz
 obtain ⟨hwk, hwn, hwx, hws⟩ := hwf
 simp only [cV, T.k, T.n, T.x, T.s, T.l] at hr hwk hwn hwx hws ⊢
 have hszl : T.szL l ≤ 1048576 := by simp only [T.sz] at hsz; omega
 have hss : s.size ≤ 1048576 := by simp only [T.sz] at hsz; omega
 have hz2 : b.length + 10 + 10 * T.szL l ≤ 1073741824 := by simp only [T.sz] at hz; omega
 obtain ⟨hl1, hl2⟩ := hr.len
 have hl0 := T.length_le_szL l
 have HN := Lib.hid hwn
 have HX := Lib.hid hwx
 have HU := Lib.hid hbu
 have hg := hp.lt
 have q0 := Is.new w (cV (.mk k n x s l) a cap) 26
 have HB0 := Lib.hid (below1 w (.cells (cV (.mk k n x s l) a cap) 26))
 simp only [cV, T.k, T.n, T.x, T.s, T.l] at q0 HB0
 have HP0 := Lib.hid (hp.below HB0.out)
 have HR0 := Lib.hid (hr.below (HB0.out.mono (by omega)) hB)
 obtain ⟨c0, c1, c2', c3, c4⟩ := q0.cells5
 have lg := q0.lt
 clear q0 hr hp hbu hsz hz hws hwx
 subst hk
 clear hwk
 have HI := Lib.hid IH
 by_cases h0 : 0 ≤ n ∧ n ≤ 1000000000000000
 ·have DN := Lib.hid (show decide (0 ≤ n ∧ n ≤ 1000000000000000) = true from decide_eq_true h0)
  have HE := Lib.hid (show packT (.mk 11 n x s l) = hdL 6 n ++ packTs l from by rw [packT, if_neg (by omega), if_neg (by omega), if_neg (by omega), if_neg (by omega), if_neg (by omega), if_neg (by omega), if_neg (by omega), if_neg (by omega), if_neg (by omega), if_pos rfl, if_pos h0])
  go_enter Tryz.func72, Tryz.ntmps72
  go_wp2_with (go_at_call 125; refine (impl_withinE _ _ _ _).mono ?_; rintro ee w2 ⟨rfl, rfl⟩; rw [DN.out])
  refine (impl_packElems l HI b 6 n a cap B g _ HR0.out hszl hB HP0.out ⟨by omega, by omega⟩ h0 HU.out (by omega)).mono ?_
  rintro ee w9 ⟨rfl, hp9, hb9⟩
  have HP9 := Lib.hid hp9
  have HB9 := Lib.hid ((HB0.out.mono (by omega)).trans hb9)
  clear hp9 hb9
  go_wp2_with fail
  (first | go_end0 | refine bodyPost_ret (results_none rfl _ _ _) rfl ?_)
  exact ⟨rfl, by rw [HE.out]; exact HP9.out, HB9.out⟩
 ·have DN := Lib.hid (show decide (0 ≤ n ∧ n ≤ 1000000000000000) = false from decide_eq_false h0)
  have HE := Lib.hid (show packT (.mk 11 n x s l) = [] from by rw [packT, if_neg (by omega), if_neg (by omega), if_neg (by omega), if_neg (by omega), if_neg (by omega), if_neg (by omega), if_neg (by omega), if_neg (by omega), if_neg (by omega), if_pos rfl, if_neg h0])
  clear h0
  go_enter Tryz.func72, Tryz.ntmps72
  go_wp2_with (go_at_call 125; refine (impl_withinE _ _ _ _).mono ?_; rintro ee w2 ⟨rfl, rfl⟩; rw [DN.out])
  (first | go_end0 | refine bodyPost_ret (results_none rfl _ _ _) rfl ?_)
  exact ⟨rfl, by rw [HE.out, List.append_nil]; exact HP0.out, HB0.out.mono (by omega)⟩
set_option maxHeartbeats 4000000 in
theorem pv0 (k n x : Int) (s : ByteArray) (l : List T) (hk : ¬ (k = 1 ∨ k = 2 ∨ k = 3 ∨ k = 4 ∨ k = 5 ∨ k = 7 ∨ k = 8 ∨ k = 9 ∨ k = 10 ∨ k = 11)) : PV (.mk k n x s l) := by
 intro b a cap B g w hr hwf hsz hB hp hbu hz
 obtain ⟨hwk, hwn, hwx, hws⟩ := hwf
 simp only [cV, T.k, T.n, T.x, T.s, T.l] at hr hwk hwn hwx hws ⊢
 have hszl : T.szL l ≤ 1048576 := by simp only [T.sz] at hsz; omega
 have hss : s.size ≤ 1048576 := by simp only [T.sz] at hsz; omega
 have hz2 : b.length + 10 + 10 * T.szL l ≤ 1073741824 := by simp only [T.sz] at hz; omega
 obtain ⟨hl1, hl2⟩ := hr.len
 have hl0 := T.length_le_szL l
 have HN := Lib.hid hwn
 have HX := Lib.hid hwx
 have HU := Lib.hid hbu
 have hg := hp.lt
 have q0 := Is.new w (cV (.mk k n x s l) a cap) 26
 have HB0 := Lib.hid (below1 w (.cells (cV (.mk k n x s l) a cap) 26))
 simp only [cV, T.k, T.n, T.x, T.s, T.l] at q0 HB0
 have HP0 := Lib.hid (hp.below HB0.out)
 have HR0 := Lib.hid (hr.below (HB0.out.mono (by omega)) hB)
 obtain ⟨c0, c1, c2', c3, c4⟩ := q0.cells5
 have lg := q0.lt
 clear q0 hr hp hbu hsz hz hws hwx
 have HE := Lib.hid (show packT (.mk k n x s l) = [] from by rw [packT, if_neg (by omega), if_neg (by omega), if_neg (by omega), if_neg (by omega), if_neg (by omega), if_neg (by omega), if_neg (by omega), if_neg (by omega), if_neg (by omega), if_neg (by omega)])
 clear hwk
 have g1 : ¬ k = 1 := by omega
 have g2 : ¬ k = 2 := by omega
 have g3 : ¬ k = 3 := by omega
 have g4 : ¬ k = 4 := by omega
 have g5 : ¬ k = 5 := by omega
 have g7 : ¬ k = 7 := by omega
 have g8 : ¬ k = 8 := by omega
 have g9 : ¬ k = 9 := by omega
 have g10 : ¬ k = 10 := by omega
 have g11 : ¬ k = 11 := by omega
 clear hk
 go_enter Tryz.func72, Tryz.ntmps72
 go_wp2_with fail
 (first | go_end0 | refine bodyPost_ret (results_none rfl _ _ _) rfl ?_)
 exact ⟨rfl, by rw [HE.out, List.append_nil]; exact HP0.out, HB0.out.mono (by omega)⟩
theorem impl_packValue : ∀ t : T, PV t := by
 apply T.ind
 intro k n x s l ih
 by_cases h0 : ¬ (k = 1 ∨ k = 2 ∨ k = 3 ∨ k = 4 ∨ k = 5 ∨ k = 7 ∨ k = 8 ∨ k = 9 ∨ k = 10 ∨ k = 11)
 ·exact pv0 k n x s l h0
 ·rcases Classical.not_not.1 h0 with h | h | h | h | h | h | h | h | h | h
  ·exact pv1 k n x s l h
  ·exact pv2 k n x s l h
  ·exact pv3 k n x s l h
  ·exact pv4 k n x s l h
  ·exact pv5 k n x s l h
  ·exact pv7 k n x s l h
  ·exact pv8 k n x s l h
  ·exact pv9 k n x s l ih h
  ·exact pv10 k n x s l ih h
  ·exact pv11 k n x s l ih h
set_option maxHeartbeats 2000000 in
theorem impl_PackTight (t : T) (a : Option Addr) (cap B : Nat) (w : World) (hr : R w B a cap t.l) (hwf : Wf t) (hsz : T.sz t ≤ 1048576) (hB : B ≤ w.heap.size) :
  Calls Tryz.prog 21 #[.agg (cV t a cap)] w fun e w' => ∃ a' cap', e = .returned (.slice a' (packT t).length cap') ∧ AppL EByte 1 5 w' w.heap.size a' cap' (packT t) [] ∧ Below w.heap.size w w' := by
 have HR := Lib.hid hr
 have HWF := Lib.hid hwf
 clear hr hwf
 go_enter Tryz.func21, Tryz.ntmps21
 go_wp2_with fail
 generalize hW : (w.alloc (Obj.cells _ 26)).alloc (Obj.cells _ 52) = W0
 have q1 : Is W0 w.heap.size 26 (cV t a cap) := by subst hW; exact (Is.new _ _ _).alloc _
 have q2 : Is W0 (w.heap.size + 1) 52 #[.slice none 0 0, .bool false, .bool false] := by subst hW; exact Is.new2 _ _ _ _
 have H0 := Lib.hid (show Below w.heap.size w W0 from by subst hW; exact below2 _ _ _)
 have hs0 : W0.heap.size = w.heap.size + 2 := by subst hW; simp
 clear hW
 obtain ⟨r0, r1, r2, r3, r4⟩ := q1.cells5
 have hl4 : w.heap.size < W0.heap.size := by omega
 have HP0 : Hid (Pk W0 (w.heap.size + 1) []) := Lib.hid ⟨none, 0, q2, Or.inl ⟨rfl, rfl, rfl, rfl⟩⟩
 clear q1 q2
 go_wp2_with fail
 refine (impl_packValue t [] a cap B (w.heap.size + 1) W0 (HR.out.below H0.out hB) HWF.out hsz (by omega) HP0.out (by simp) (by simp; omega)).mono ?_
 rintro ee w2 ⟨rfl, hp2, hb2⟩
 have HB2 := Lib.hid (H0.out.trans (hb2.mono (by omega)))
 have hg2 := hp2.lt
 obtain ⟨a2, c2, i2, happ2⟩ := hp2
 obtain ⟨f0, f1, f2⟩ := i2.cells3
 have HA2 := Lib.hid (happ2.less (show w.heap.size ≤ w.heap.size + 1 + 1 by omega))
 clear hb2 i2 happ2
 go_wp2_with fail
 go_ret
 exact ⟨a2, c2, rfl, HA2.out, HB2.out⟩
end Go.Proofs.YtggdenkmohnijaaGreatDoor
