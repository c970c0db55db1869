/- Texts of this proof, merged: LeafK. No condition beyond what each theorem states. -/
import Derived.Test.YtggdenkmohnijaaGreatDoorZN36
set_option linter.unusedSimpArgs false
set_option linter.unnecessarySimpa false
namespace Go.Proofs.YtggdenkmohnijaaGreatDoor
open Go.ChangeShapes Go.WideShapes Go.ChangeAt Go.RowKit Go.Joins
set_option linter.unusedVariables false
set_option maxRecDepth 100000
set_option maxHeartbeats 8000000 in
theorem spec_leaf1_int (way n x : Int) (s : ByteArray) (l : List T) (a : Option Addr) (cap B : Nat) (w : World) (hr : R w B a cap l) (hwf : Wf (.mk 3 n x s l)) (hct : T.count (.mk 3 n x s l) ≤ 1073741824) (hB : B ≤ w.heap.size) (hss : s.size ≤ 1048576) (hw1 : way = 1) :
    Calls Tryz.prog 141 #[.int .i64 way, .agg (cV (.mk 3 n x s l) a cap)] w fun e w' => ∃ a' cap', e = .returned (.tuple #[.agg (cV (leafW way 3 n x s l).1 a' cap'), .int .i64 (leafW way 3 n x s l).2]) ∧ Own w' w.heap.size w'.heap.size a' cap' (leafW way 3 n x s l).1.l ∧ Below w.heap.size w w' := by
  have HWF := Lib.hid hwf
  have HC := Lib.hid hct; clear hct
  obtain ⟨hwk, hwn, hwx, hws⟩ := hwf
  simp only [cV, T.k, T.n, T.x, T.s, T.l] at hwk hwn hwx hws ⊢
  obtain ⟨hl1, hl2⟩ := hr.len
  have HR := Lib.hid hr; clear hr
  have HN := Lib.hid hwn
  have HX := Lib.hid hwx
  clear hwk hwn hwx hws
  obtain ⟨QQ, hQQ⟩ : ∃ r, nearD n x = r := ⟨_, rfl⟩
  have HQQ := Lib.hid hQQ; clear hQQ
  obtain ⟨⟨k2, n2, x2, s2, l2⟩, rz, hRR⟩ : ∃ t' r', nearW n x = (t', r') := ⟨_, _, rfl⟩
  have hl2n : l2 = [] := by have := nearW_l n x; rw [hRR] at this; exact this
  subst hl2n
  have HRR := Lib.hid hRR; clear hRR
  subst hw1
  have HL := Lib.hid (show leafW 1 3 n x s l = (.mk 3 n x s l, 0) from by unfold leafW; rw [if_neg (by omega), if_neg (by omega), if_neg (by omega), if_neg (by omega)])
  go_enter Tryz.func141, Tryz.ntmps141
  go_wp2_with fail
  generalize hW : (w.alloc (Obj.cells #[Value.int IntKind.i64 3, Value.int IntKind.i64 n, Value.int IntKind.i64 x, Value.string s, Value.slice a l.length cap] 26)).alloc (Obj.cells zV 26) = W0
  have q1 : Is W0 w.heap.size 26 #[Value.int IntKind.i64 3, Value.int IntKind.i64 n, Value.int IntKind.i64 x, Value.string s, Value.slice a l.length cap] := by subst hW; exact (Is.new _ _ _).alloc _
  have q2 : Is W0 (w.heap.size + 1) 26 zV := by subst hW; exact Is.new2 _ _ _ _
  have H0 := Lib.hid (show Below w.heap.size w W0 from by subst hW; exact below2 _ _ _)
  have hs0 : W0.heap.size = w.heap.size + 2 := by subst hW; simp
  clear hW
  refine (spec_l6Copy (.mk 3 n x s l) a cap B W0 (HR.out.below H0.out hB) HWF.out (by omega) HC.out).mono ?_
  rintro ee w2 ⟨a', cap', rfl, ho, hb2⟩
  simp only [cV, T.k, T.n, T.x, T.s, T.l] at ho ⊢
  have HO := Lib.hid ho; clear ho
  have hs2 := hb2.size
  have p1 := q1.below hb2 (by omega)
  have p2 := q2.below hb2 (by omega)
  have HB := Lib.hid (H0.out.trans (hb2.mono (by omega)))
  have hl1 : w.heap.size + 1 < w2.heap.size := by omega
  have hl0 : w.heap.size < w2.heap.size := by omega
  clear hb2
  have f1 := fun i => p1.frozen i
  have f2 := fun i => p2.frozen i
  obtain ⟨r0, r1, r2, r3, r4⟩ := p1.cells5
  obtain ⟨o0, o1, o2, o3, o4⟩ := p2.cells5
  try dsimp only
  repeat (first | go_values | go_skip | go_guarded | go_step | go_upon)
  obtain ⟨e0, e1, e2, e3, e4, hbel, hold, hsz⟩ := out5 p2.blk (.int .i64 3) (.int .i64 n) (.int .i64 x) (.string s) (.slice a' l.length cap') w.heap.size (by omega)
  rw [HL.out]
  refine bodyPost_ret (v := .tuple #[.agg #[.int .i64 3, .int .i64 n, .int .i64 x, .string s, .slice a' l.length cap'], .int .i64 0]) (by simp [results, Tryz.results141, go_sem, e0, e1, e2, e3, e4]) rfl ⟨a', cap', rfl, ?_, HB.out.trans hbel⟩
  rw [hsz]
  exact (HO.out.agree (fun f h1 h2 => hold f (by omega))).more (by omega) (Nat.le_refl _)
set_option maxHeartbeats 8000000 in
theorem spec_leaf1_flt (way n x : Int) (s : ByteArray) (l : List T) (a : Option Addr) (cap B : Nat) (w : World) (hr : R w B a cap l) (hwf : Wf (.mk 4 n x s l)) (hct : T.count (.mk 4 n x s l) ≤ 1073741824) (hB : B ≤ w.heap.size) (hss : s.size ≤ 1048576) (hw1 : way = 1) :
    Calls Tryz.prog 141 #[.int .i64 way, .agg (cV (.mk 4 n x s l) a cap)] w fun e w' => ∃ a' cap', e = .returned (.tuple #[.agg (cV (leafW way 4 n x s l).1 a' cap'), .int .i64 (leafW way 4 n x s l).2]) ∧ Own w' w.heap.size w'.heap.size a' cap' (leafW way 4 n x s l).1.l ∧ Below w.heap.size w w' := by
  have HWF := Lib.hid hwf
  have HC := Lib.hid hct; clear hct
  obtain ⟨hwk, hwn, hwx, hws⟩ := hwf
  simp only [cV, T.k, T.n, T.x, T.s, T.l] at hwk hwn hwx hws ⊢
  obtain ⟨hl1, hl2⟩ := hr.len
  have HR := Lib.hid hr; clear hr
  have HN := Lib.hid hwn
  have HX := Lib.hid hwx
  clear hwk hwn hwx hws
  obtain ⟨⟨k2, n2, x2, s2, l2⟩, hNN⟩ : ∃ t', numV (fltDecD n x) = t' := ⟨_, rfl⟩
  have hl2n : l2 = [] := by have := numV_l (fltDecD n x); rw [hNN] at this; exact this
  subst hl2n
  have HNN := Lib.hid hNN; clear hNN
  subst hw1
  have HL := Lib.hid (show leafW 1 4 n x s l = (.mk k2 n2 x2 s2 [], 1) from by unfold leafW; rw [if_neg (by omega), if_pos (by omega), HNN.out])
  go_enter Tryz.func141, Tryz.ntmps141
  go_wp2_with fail
  generalize hW : (w.alloc (Obj.cells #[Value.int IntKind.i64 4, Value.int IntKind.i64 n, Value.int IntKind.i64 x, Value.string s, Value.slice a l.length cap] 26)).alloc (Obj.cells zV 26) = W0
  have q1 : Is W0 w.heap.size 26 #[Value.int IntKind.i64 4, Value.int IntKind.i64 n, Value.int IntKind.i64 x, Value.string s, Value.slice a l.length cap] := by subst hW; exact (Is.new _ _ _).alloc _
  have q2 : Is W0 (w.heap.size + 1) 26 zV := by subst hW; exact Is.new2 _ _ _ _
  have H0 := Lib.hid (show Below w.heap.size w W0 from by subst hW; exact below2 _ _ _)
  have hs0 : W0.heap.size = w.heap.size + 2 := by subst hW; simp
  clear hW
  refine (spec_FltDec n x W0 HN.out HX.out).mono ?_
  rintro ee w1 ⟨rfl, hb1⟩
  have hs1 := hb1.size
  have H1 := Lib.hid (hb1); clear hb1
  go_wp2_with fail
  refine (spec_NumberVal (fltDecD n x).1 (fltDecD n x).2 w1).mono ?_
  rintro ee w2 ⟨rfl, hb3⟩
  have hb2 := H1.out.trans (hb3.mono hs1); clear hb3 H1 hs1
  have hs2 := hb2.size
  have p1 := q1.below hb2 (by omega)
  have p2 := q2.below hb2 (by omega)
  have HB := Lib.hid (H0.out.trans (hb2.mono (by omega)))
  have hl1 : w.heap.size + 1 < w2.heap.size := by omega
  have hl0 : w.heap.size < w2.heap.size := by omega
  clear hb2
  have f1 := fun i => p1.frozen i
  have f2 := fun i => p2.frozen i
  obtain ⟨r0, r1, r2, r3, r4⟩ := p1.cells5
  obtain ⟨o0, o1, o2, o3, o4⟩ := p2.cells5
  rw [show ((fltDecD n x).1, (fltDecD n x).2) = fltDecD n x from rfl, HNN.out]
  simp only [cV, T.k, T.n, T.x, T.s, T.l, List.length_nil]
  try dsimp only
  repeat (first | go_values | go_skip | go_guarded | go_step | go_upon)
  obtain ⟨e0, e1, e2, e3, e4, hbel, hold, hsz⟩ := out5 p2.blk (.int .i64 k2) (.int .i64 n2) (.int .i64 x2) (.string s2) (.slice none 0 0) w.heap.size (by omega)
  rw [HL.out]
  refine bodyPost_ret (v := .tuple #[.agg #[.int .i64 k2, .int .i64 n2, .int .i64 x2, .string s2, .slice none 0 0], .int .i64 1]) (by simp [results, Tryz.results141, go_sem, e0, e1, e2, e3, e4]) rfl ⟨none, 0, rfl, ?_, HB.out.trans hbel⟩
  exact Own.nil _ _ _ _ _ (by simp [maxLen])
set_option maxHeartbeats 8000000 in
theorem spec_leaf1_odd (way n x : Int) (s : ByteArray) (l : List T) (a : Option Addr) (cap B : Nat) (w : World) (hr : R w B a cap l) (hwf : Wf (.mk 5 n x s l)) (hct : T.count (.mk 5 n x s l) ≤ 1073741824) (hB : B ≤ w.heap.size) (hss : s.size ≤ 1048576) (hw1 : way = 1) :
    Calls Tryz.prog 141 #[.int .i64 way, .agg (cV (.mk 5 n x s l) a cap)] w fun e w' => ∃ a' cap', e = .returned (.tuple #[.agg (cV (leafW way 5 n x s l).1 a' cap'), .int .i64 (leafW way 5 n x s l).2]) ∧ Own w' w.heap.size w'.heap.size a' cap' (leafW way 5 n x s l).1.l ∧ Below w.heap.size w w' := by
  have HWF := Lib.hid hwf
  have HC := Lib.hid hct; clear hct
  obtain ⟨hwk, hwn, hwx, hws⟩ := hwf
  simp only [cV, T.k, T.n, T.x, T.s, T.l] at hwk hwn hwx hws ⊢
  obtain ⟨hl1, hl2⟩ := hr.len
  have HR := Lib.hid hr; clear hr
  have HN := Lib.hid hwn
  have HX := Lib.hid hwx
  clear hwk hwn hwx hws
  subst hw1
  have HL := Lib.hid (show leafW 1 5 n x s l = (.mk 1 0 0 ⟨#[]⟩ [], 4) from by unfold leafW; rw [if_neg (by omega), if_neg (by omega), if_pos (by omega)])
  go_enter Tryz.func141, Tryz.ntmps141
  go_wp2_with fail
  generalize hW : (w.alloc (Obj.cells #[Value.int IntKind.i64 5, Value.int IntKind.i64 n, Value.int IntKind.i64 x, Value.string s, Value.slice a l.length cap] 26)).alloc (Obj.cells zV 26) = W0
  have q1 : Is W0 w.heap.size 26 #[Value.int IntKind.i64 5, Value.int IntKind.i64 n, Value.int IntKind.i64 x, Value.string s, Value.slice a l.length cap] := by subst hW; exact (Is.new _ _ _).alloc _
  have q2 : Is W0 (w.heap.size + 1) 26 zV := by subst hW; exact Is.new2 _ _ _ _
  have H0 := Lib.hid (show Below w.heap.size w W0 from by subst hW; exact below2 _ _ _)
  have hs0 : W0.heap.size = w.heap.size + 2 := by subst hW; simp
  clear hW
  refine (spec_TextNames 1 W0).mono ?_
  rintro ee wA ⟨rfl, hw⟩
  subst hw
  rw [show decide ((1 : Int) = 1 ∨ (1 : Int) = 4) = true from by decide]
  have p2 := q2
  have p1 := q1
  have HB := H0
  have hl0 : w.heap.size < wA.heap.size := by omega
  have hl1 : w.heap.size + 1 < wA.heap.size := by omega
  have f1 := fun i => p1.frozen i
  have f2 := fun i => p2.frozen i
  obtain ⟨r0, r1, r2, r3, r4⟩ := p1.cells5
  obtain ⟨o0, o1, o2, o3, o4⟩ := p2.cells5
  try dsimp only
  repeat (first | go_values | go_skip | go_guarded | go_step | go_upon)
  obtain ⟨e0, e1, e2, e3, e4, hbel, hold, hsz⟩ := out5 p2.blk (.int .i64 1) (.int .i64 0) (.int .i64 0) (.string ⟨#[]⟩) (.slice none 0 0) w.heap.size (by omega)
  rw [HL.out]
  refine bodyPost_ret (v := .tuple #[.agg #[.int .i64 1, .int .i64 0, .int .i64 0, .string ⟨#[]⟩, .slice none 0 0], .int .i64 4]) (by simp [results, Tryz.results141, go_sem, e0, e1, e2, e3, e4]) rfl ⟨none, 0, rfl, ?_, HB.out.trans hbel⟩
  exact Own.nil _ _ _ _ _ (by simp [maxLen])
set_option maxHeartbeats 8000000 in
theorem spec_leaf1_dec (way n x : Int) (s : ByteArray) (l : List T) (a : Option Addr) (cap B : Nat) (w : World) (hr : R w B a cap l) (hwf : Wf (.mk 6 n x s l)) (hct : T.count (.mk 6 n x s l) ≤ 1073741824) (hB : B ≤ w.heap.size) (hss : s.size ≤ 1048576) (hw1 : way = 1) :
    Calls Tryz.prog 141 #[.int .i64 way, .agg (cV (.mk 6 n x s l) a cap)] w fun e w' => ∃ a' cap', e = .returned (.tuple #[.agg (cV (leafW way 6 n x s l).1 a' cap'), .int .i64 (leafW way 6 n x s l).2]) ∧ Own w' w.heap.size w'.heap.size a' cap' (leafW way 6 n x s l).1.l ∧ Below w.heap.size w w' := by
  have HWF := Lib.hid hwf
  have HC := Lib.hid hct; clear hct
  obtain ⟨hwk, hwn, hwx, hws⟩ := hwf
  simp only [cV, T.k, T.n, T.x, T.s, T.l] at hwk hwn hwx hws ⊢
  obtain ⟨hl1, hl2⟩ := hr.len
  have HR := Lib.hid hr; clear hr
  have HN := Lib.hid hwn
  have HX := Lib.hid hwx
  clear hwk hwn hwx hws
  obtain ⟨QQ, hQQ⟩ : ∃ r, nearD n x = r := ⟨_, rfl⟩
  have HQQ := Lib.hid hQQ; clear hQQ
  obtain ⟨⟨k2, n2, x2, s2, l2⟩, rz, hRR⟩ : ∃ t' r', nearW n x = (t', r') := ⟨_, _, rfl⟩
  have hl2n : l2 = [] := by have := nearW_l n x; rw [hRR] at this; exact this
  subst hl2n
  have HRR := Lib.hid hRR; clear hRR
  subst hw1
  have HL := Lib.hid (show leafW 1 6 n x s l = (.mk 6 n x s l, 0) from by unfold leafW; rw [if_neg (by omega), if_neg (by omega), if_neg (by omega), if_neg (by omega)])
  go_enter Tryz.func141, Tryz.ntmps141
  go_wp2_with fail
  generalize hW : (w.alloc (Obj.cells #[Value.int IntKind.i64 6, Value.int IntKind.i64 n, Value.int IntKind.i64 x, Value.string s, Value.slice a l.length cap] 26)).alloc (Obj.cells zV 26) = W0
  have q1 : Is W0 w.heap.size 26 #[Value.int IntKind.i64 6, Value.int IntKind.i64 n, Value.int IntKind.i64 x, Value.string s, Value.slice a l.length cap] := by subst hW; exact (Is.new _ _ _).alloc _
  have q2 : Is W0 (w.heap.size + 1) 26 zV := by subst hW; exact Is.new2 _ _ _ _
  have H0 := Lib.hid (show Below w.heap.size w W0 from by subst hW; exact below2 _ _ _)
  have hs0 : W0.heap.size = w.heap.size + 2 := by subst hW; simp
  clear hW
  refine (spec_l6Copy (.mk 6 n x s l) a cap B W0 (HR.out.below H0.out hB) HWF.out (by omega) HC.out).mono ?_
  rintro ee w2 ⟨a', cap', rfl, ho, hb2⟩
  simp only [cV, T.k, T.n, T.x, T.s, T.l] at ho ⊢
  have HO := Lib.hid ho; clear ho
  have hs2 := hb2.size
  have p1 := q1.below hb2 (by omega)
  have p2 := q2.below hb2 (by omega)
  have HB := Lib.hid (H0.out.trans (hb2.mono (by omega)))
  have hl1 : w.heap.size + 1 < w2.heap.size := by omega
  have hl0 : w.heap.size < w2.heap.size := by omega
  clear hb2
  have f1 := fun i => p1.frozen i
  have f2 := fun i => p2.frozen i
  obtain ⟨r0, r1, r2, r3, r4⟩ := p1.cells5
  obtain ⟨o0, o1, o2, o3, o4⟩ := p2.cells5
  try dsimp only
  repeat (first | go_values | go_skip | go_guarded | go_step | go_upon)
  obtain ⟨e0, e1, e2, e3, e4, hbel, hold, hsz⟩ := out5 p2.blk (.int .i64 6) (.int .i64 n) (.int .i64 x) (.string s) (.slice a' l.length cap') w.heap.size (by omega)
  rw [HL.out]
  refine bodyPost_ret (v := .tuple #[.agg #[.int .i64 6, .int .i64 n, .int .i64 x, .string s, .slice a' l.length cap'], .int .i64 0]) (by simp [results, Tryz.results141, go_sem, e0, e1, e2, e3, e4]) rfl ⟨a', cap', rfl, ?_, HB.out.trans hbel⟩
  rw [hsz]
  exact (HO.out.agree (fun f h1 h2 => hold f (by omega))).more (by omega) (Nat.le_refl _)
set_option maxHeartbeats 8000000 in
theorem spec_leaf1_bytes (way n x : Int) (s : ByteArray) (l : List T) (a : Option Addr) (cap B : Nat) (w : World) (hr : R w B a cap l) (hwf : Wf (.mk 8 n x s l)) (hct : T.count (.mk 8 n x s l) ≤ 1073741824) (hB : B ≤ w.heap.size) (hss : s.size ≤ 1048576) (hw1 : way = 1) :
    Calls Tryz.prog 141 #[.int .i64 way, .agg (cV (.mk 8 n x s l) a cap)] w fun e w' => ∃ a' cap', e = .returned (.tuple #[.agg (cV (leafW way 8 n x s l).1 a' cap'), .int .i64 (leafW way 8 n x s l).2]) ∧ Own w' w.heap.size w'.heap.size a' cap' (leafW way 8 n x s l).1.l ∧ Below w.heap.size w w' := by
  have HWF := Lib.hid hwf
  have HC := Lib.hid hct; clear hct
  obtain ⟨hwk, hwn, hwx, hws⟩ := hwf
  simp only [cV, T.k, T.n, T.x, T.s, T.l] at hwk hwn hwx hws ⊢
  obtain ⟨hl1, hl2⟩ := hr.len
  have HR := Lib.hid hr; clear hr
  have HN := Lib.hid hwn
  have HX := Lib.hid hwx
  clear hwk hwn hwx hws
  subst hw1
  have HL := Lib.hid (show leafW 1 8 n x s l = (.mk 7 0 0 (hexT s) [], 5) from by unfold leafW; rw [if_neg (by omega), if_neg (by omega), if_neg (by omega), if_pos (by omega)])
  go_enter Tryz.func141, Tryz.ntmps141
  go_wp2_with fail
  generalize hW : (w.alloc (Obj.cells #[Value.int IntKind.i64 8, Value.int IntKind.i64 n, Value.int IntKind.i64 x, Value.string s, Value.slice a l.length cap] 26)).alloc (Obj.cells zV 26) = W0
  have q1 : Is W0 w.heap.size 26 #[Value.int IntKind.i64 8, Value.int IntKind.i64 n, Value.int IntKind.i64 x, Value.string s, Value.slice a l.length cap] := by subst hW; exact (Is.new _ _ _).alloc _
  have q2 : Is W0 (w.heap.size + 1) 26 zV := by subst hW; exact Is.new2 _ _ _ _
  have H0 := Lib.hid (show Below w.heap.size w W0 from by subst hW; exact below2 _ _ _)
  have hs0 : W0.heap.size = w.heap.size + 2 := by subst hW; simp
  clear hW
  refine (spec_TextNames 1 W0).mono ?_
  rintro ee wA ⟨rfl, hw⟩
  subst hw
  rw [show decide ((1 : Int) = 1 ∨ (1 : Int) = 4) = true from by decide]
  have hll0 : w.heap.size < wA.heap.size := by omega
  obtain ⟨r0, r1, r2, r3, r4⟩ := q1.cells5
  go_wp2_with fail
  clear r0 r1 r2 r3 r4
  refine (spec_HexText s wA hss).mono ?_
  rintro ee w1 ⟨rfl, hb1⟩
  have hs1 := hb1.size
  have H1 := Lib.hid (hb1); clear hb1
  go_wp2_with fail
  refine (spec_TextVal (hexT s) w1).mono ?_
  rintro ee w2 ⟨rfl, hb3⟩
  have hb2 := H1.out.trans (hb3.mono hs1); clear hb3 H1 hs1
  have hs2 := hb2.size
  have p1 := q1.below hb2 (by omega)
  have p2 := q2.below hb2 (by omega)
  have HB := Lib.hid (H0.out.trans (hb2.mono (by omega)))
  have hl1 : w.heap.size + 1 < w2.heap.size := by omega
  have hl0 : w.heap.size < w2.heap.size := by omega
  clear hb2
  have f1 := fun i => p1.frozen i
  have f2 := fun i => p2.frozen i
  obtain ⟨r0, r1, r2, r3, r4⟩ := p1.cells5
  obtain ⟨o0, o1, o2, o3, o4⟩ := p2.cells5
  try dsimp only
  repeat (first | go_values | go_skip | go_guarded | go_step | go_upon)
  obtain ⟨e0, e1, e2, e3, e4, hbel, hold, hsz⟩ := out5 p2.blk (.int .i64 7) (.int .i64 0) (.int .i64 0) (.string (hexT s)) (.slice none 0 0) w.heap.size (by omega)
  rw [HL.out]
  refine bodyPost_ret (v := .tuple #[.agg #[.int .i64 7, .int .i64 0, .int .i64 0, .string (hexT s), .slice none 0 0], .int .i64 5]) (by simp [results, Tryz.results141, go_sem, e0, e1, e2, e3, e4]) rfl ⟨none, 0, rfl, ?_, HB.out.trans hbel⟩
  exact Own.nil _ _ _ _ _ (by simp [maxLen])
set_option maxHeartbeats 8000000 in
theorem spec_leaf1_rest (way k n x : Int) (s : ByteArray) (l : List T) (a : Option Addr) (cap B : Nat) (w : World) (hr : R w B a cap l) (hwf : Wf (.mk k n x s l)) (hct : T.count (.mk k n x s l) ≤ 1073741824) (hB : B ≤ w.heap.size) (hss : s.size ≤ 1048576) (hk3 : ¬ k = 3) (hk4 : ¬ k = 4) (hk5 : ¬ k = 5) (hk6 : ¬ k = 6) (hk8 : ¬ k = 8) (hw1 : way = 1) :
    Calls Tryz.prog 141 #[.int .i64 way, .agg (cV (.mk k n x s l) a cap)] w fun e w' => ∃ a' cap', e = .returned (.tuple #[.agg (cV (leafW way k n x s l).1 a' cap'), .int .i64 (leafW way k n x s l).2]) ∧ Own w' w.heap.size w'.heap.size a' cap' (leafW way k n x s l).1.l ∧ Below w.heap.size w w' := by
  have HWF := Lib.hid hwf
  have HC := Lib.hid hct; clear hct
  obtain ⟨hwk, hwn, hwx, hws⟩ := hwf
  simp only [cV, T.k, T.n, T.x, T.s, T.l] at hwk hwn hwx hws ⊢
  obtain ⟨hl1, hl2⟩ := hr.len
  have HR := Lib.hid hr; clear hr
  have HN := Lib.hid hwn
  have HX := Lib.hid hwx
  clear hwk hwn hwx hws
  have hb3 : (k == 3) = false := by simpa using hk3
  have hb4 : (k == 4) = false := by simpa using hk4
  have hb5 : (k == 5) = false := by simpa using hk5
  have hb6 : (k == 6) = false := by simpa using hk6
  have hb8 : (k == 8) = false := by simpa using hk8
  subst hw1
  have HL := Lib.hid (show leafW 1 k n x s l = (.mk k n x s l, 0) from by unfold leafW; rw [if_neg (by omega), if_neg (by omega), if_neg (by omega), if_neg (by omega)])
  go_enter Tryz.func141, Tryz.ntmps141
  go_wp2_with fail
  generalize hW : (w.alloc (Obj.cells #[Value.int IntKind.i64 k, Value.int IntKind.i64 n, Value.int IntKind.i64 x, Value.string s, Value.slice a l.length cap] 26)).alloc (Obj.cells zV 26) = W0
  have q1 : Is W0 w.heap.size 26 #[Value.int IntKind.i64 k, Value.int IntKind.i64 n, Value.int IntKind.i64 x, Value.string s, Value.slice a l.length cap] := by subst hW; exact (Is.new _ _ _).alloc _
  have q2 : Is W0 (w.heap.size + 1) 26 zV := by subst hW; exact Is.new2 _ _ _ _
  have H0 := Lib.hid (show Below w.heap.size w W0 from by subst hW; exact below2 _ _ _)
  have hs0 : W0.heap.size = w.heap.size + 2 := by subst hW; simp
  clear hW
  refine (spec_l6Copy (.mk k n x s l) a cap B W0 (HR.out.below H0.out hB) HWF.out (by omega) HC.out).mono ?_
  rintro ee w2 ⟨a', cap', rfl, ho, hb2⟩
  simp only [cV, T.k, T.n, T.x, T.s, T.l] at ho ⊢
  have HO := Lib.hid ho; clear ho
  have hs2 := hb2.size
  have p1 := q1.below hb2 (by omega)
  have p2 := q2.below hb2 (by omega)
  have HB := Lib.hid (H0.out.trans (hb2.mono (by omega)))
  have hl1 : w.heap.size + 1 < w2.heap.size := by omega
  have hl0 : w.heap.size < w2.heap.size := by omega
  clear hb2
  have f1 := fun i => p1.frozen i
  have f2 := fun i => p2.frozen i
  obtain ⟨r0, r1, r2, r3, r4⟩ := p1.cells5
  obtain ⟨o0, o1, o2, o3, o4⟩ := p2.cells5
  try dsimp only
  repeat (first | go_values | go_skip | go_guarded | go_step | go_upon)
  obtain ⟨e0, e1, e2, e3, e4, hbel, hold, hsz⟩ := out5 p2.blk (.int .i64 k) (.int .i64 n) (.int .i64 x) (.string s) (.slice a' l.length cap') w.heap.size (by omega)
  rw [HL.out]
  refine bodyPost_ret (v := .tuple #[.agg #[.int .i64 k, .int .i64 n, .int .i64 x, .string s, .slice a' l.length cap'], .int .i64 0]) (by simp [results, Tryz.results141, go_sem, e0, e1, e2, e3, e4]) rfl ⟨a', cap', rfl, ?_, HB.out.trans hbel⟩
  rw [hsz]
  exact (HO.out.agree (fun f h1 h2 => hold f (by omega))).more (by omega) (Nat.le_refl _)
theorem spec_LeafFor1 (way : Int) (t : T) (a : Option Addr) (cap B : Nat) (w : World) (hr : R w B a cap t.l) (hwf : Wf t) (hct : T.count t ≤ 1073741824) (hB : B ≤ w.heap.size) (hss : t.s.size ≤ 1048576) (hw1 : way = 1) :
    Calls Tryz.prog 141 #[.int .i64 way, .agg (cV t a cap)] w fun e w' => ∃ a' cap', e = .returned (.tuple #[.agg (cV (lT way t) a' cap'), .int .i64 (lN way t)]) ∧ Own w' w.heap.size w'.heap.size a' cap' (lT way t).l ∧ Below w.heap.size w w' := by
  obtain ⟨k, n, x, s, l⟩ := t
  simp only [T.l, T.s] at hr hss
  simp only [lT, lN, T.k, T.n, T.x, T.s, T.l]
  by_cases hk3 : k = 3
  · subst hk3; exact spec_leaf1_int way n x s l a cap B w hr hwf hct hB hss hw1
  by_cases hk4 : k = 4
  · subst hk4; exact spec_leaf1_flt way n x s l a cap B w hr hwf hct hB hss hw1
  by_cases hk5 : k = 5
  · subst hk5; exact spec_leaf1_odd way n x s l a cap B w hr hwf hct hB hss hw1
  by_cases hk6 : k = 6
  · subst hk6; exact spec_leaf1_dec way n x s l a cap B w hr hwf hct hB hss hw1
  by_cases hk8 : k = 8
  · subst hk8; exact spec_leaf1_bytes way n x s l a cap B w hr hwf hct hB hss hw1
  exact spec_leaf1_rest way k n x s l a cap B w hr hwf hct hB hss hk3 hk4 hk5 hk6 hk8 hw1
end Go.Proofs.YtggdenkmohnijaaGreatDoor
