/- Texts of this proof, merged: PgI3. No condition beyond what each theorem states. -/
import Derived.Test.YtggdenkmohnijaaGreatDoorZO31
set_option linter.unusedSimpArgs false
set_option linter.unnecessarySimpa false
namespace Go.Proofs.YtggdenkmohnijaaGreatDoor
open Go.ChangeShapes Go.WideShapes Go.ChangeAt Go.RowKit Go.Joins
set_option linter.unusedVariables false
set_option maxRecDepth 100000
theorem impl_pgHead7 (o : Bool) (b : List Int) (n k : Int) (g : Nat) (w : World) (hp : Pg (!o) o w g b) (hn : I64 n) (hz : b.length ≤ 1073741824) :
  Calls Tryz.prog 129 #[.pointer (some ⟨g, 0, none⟩), .agg (cH 7 n k)] w fun e w' => e = .returned (.tuple #[]) ∧ Pg (!o) o w' g (b ++ headL 7 n k) ∧ Below g w w' := by
 cases o
 ·exact impl_wideHead7 b n k g w hp hn hz
 ·exact impl_openHead b 7 n k g w hp hn hz
theorem impl_pgNumber (o : Bool) (b : List Int) (m n : Int) (g : Nat) (w : World) (hp : Pg (!o) o w g b) (hm : 0 ≤ m ∧ m < 7) (hn : 0 ≤ n ∧ n ≤ 1000000000000000) (hz : b.length ≤ 1073741824) :
  Calls Tryz.prog 126 #[.pointer (some ⟨g, 0, none⟩), .int .i64 m, .int .i64 n] w fun e w' => e = .returned (.tuple #[]) ∧ Pg (!o) o w' g (b ++ nuG o m n) ∧ Below g w w' := by
 cases o
 ·exact impl_wideNumber b m n g w hp hm hn hz
 ·exact impl_openNumber b m n g w hp ⟨hm.1, by omega⟩ hn hz
theorem impl_pgText (o : Bool) (b : List Int) (m : Int) (s : ByteArray) (g : Nat) (w : World) (hp : Pg (!o) o w g b) (hm : 0 ≤ m ∧ m < 7) (hbu : ∀ x ∈ b, U8 x) (hz : b.length + 19 + s.size ≤ 1073741824) :
  Calls Tryz.prog 127 #[.pointer (some ⟨g, 0, none⟩), .int .i64 m, .string s] w fun e w' => e = .returned (.tuple #[]) ∧ Pg (!o) o w' g (b ++ txG o m s) ∧ Below g w w' := by
 cases o
 ·exact impl_wideText b m s g w hp hm hbu (by omega) (by omega)
 ·exact impl_openText b m s g w hp ⟨hm.1, by omega⟩ hbu (by omega)
def PVg (o : Bool) (t : T) : Prop := ∀ (b : List Int) (a : Option Addr) (cap B g : Nat) (w : World), R w B a cap t.l → Wf t → T.sz t ≤ 1048576 → B ≤ g → Pg (!o) o w g b → (∀ x ∈ b, U8 x) → b.length + 20 * T.sz t + 20 ≤ 1073741824 →
  Calls Tryz.prog 72 #[.pointer (some ⟨g, 0, none⟩), .agg (cV t a cap)] w fun e w' => e = .returned (.tuple #[]) ∧ Pg (!o) o w' g (b ++ packG o t) ∧ Below g w w'
set_option maxHeartbeats 4000000 in
theorem impl_wideElems (l : List T) (IH : Hid (∀ t ∈ l, PVg false t)) (b : List Int) (m n : Int) (a : Option Addr) (cap B g : Nat) (w : World) (hr : R w B a cap l) (hsz : T.szL l ≤ 1048576) (hB : B ≤ g) (hp : Pg true false w g b) (hm : 0 ≤ m ∧ m < 7) (hn : 0 ≤ n ∧ n ≤ 1000000000000000) (hbu : ∀ x ∈ b, U8 x) (hz : b.length + 19 + 20 * T.szL l ≤ 1073741824) :
  Calls Tryz.prog 128 #[.pointer (some ⟨g, 0, none⟩), .int .i64 m, .int .i64 n, .slice a l.length cap] w fun e w' => e = .returned (.tuple #[]) ∧ Pg true false w' g (b ++ (headL m n 8 ++ packGs false l)) ∧ Below g w w' := by
 have hg := hp.lt
 obtain ⟨hl1, hl2⟩ := hr.len
 have HP := Lib.hid hp
 have HM := Lib.hid hm; have HN := Lib.hid hn
 have HU := Lib.hid hbu
 have HR := Lib.hid hr
 obtain ⟨a0, cap0, hp1, hp2⟩ := hp
 obtain ⟨e0, e1, e2⟩ := hp1.cells3
 clear hp1 hp2 hbu hm hn hr
 go_enter Tryz.func128, Tryz.ntmps128
 go_wp2_with fail
 refine (impl_wideNumber b m n g w HP.out HM.out HN.out (by omega)).mono ?_
 rintro ee w2 ⟨rfl, hp2, hb2⟩
 have HB2 := Lib.hid hb2
 have HP2 := Lib.hid hp2
 have hg2 := hp2.lt
 clear hb2 hp2 HP
 have hl9 := headL_len m n 8
 go_wp2_with fail
 go_loopw [30] (fun i wr => ∃ (j : Nat), j ≤ l.length ∧ i = .int .i64 j ∧ Hid (Pg true false wr g (b ++ (headL m n 8 ++ packGs false (l.take j)))) ∧ Hid (Below g w wr)) (fun i _ => l.length - (intOf i).toNat)
 case atStart => exact ⟨0, Nat.zero_le _, rfl, Lib.hid (by rw [List.take_zero, packGs, List.append_nil]; exact HP2.out), HB2⟩
 case round =>
  obtain ⟨j, hj, rfl, HPj, HBj⟩ := hrel
  have hgr := HPj.out.lt
  by_cases hlt : j < l.length
  ·obtain ⟨bb, o, a2, cap2, rfl, hbl2, d0, d1, d2, d3, d4, hwf, hq⟩ := (HR.out.below HBj.out hB).get j hlt
   have hszj := T.sz_get l j hlt
   have h1 := T.szL_take_succ l j hlt
   have h2 := T.szL_take_le l (j + 1)
   have h3 := packGs_len false (l.take j)
   have hlb : bb < wr.heap.size := by omega
   have HWF := Lib.hid hwf
   have HQ := Lib.hid hq
   have HS := Lib.hid (show b ++ (headL m n 8 ++ packGs false (l.take (j + 1))) = (b ++ (headL m n 8 ++ packGs false (l.take j))) ++ packG false l[j] from by rw [packGs_succ false l j hlt]; simp only [List.append_assoc])
   obtain ⟨u, hu⟩ : ∃ u, l[j] = u := ⟨_, rfl⟩
   have HPV : Hid (PVg false u) := Lib.hid (by rw [← hu]; exact IH.out l[j] (List.getElem_mem hlt))
   rw [hu] at d0 d1 d2 d3 d4 HQ HWF HS hszj h1
   clear hwf hq hu
   go_wp2_with fail
   generalize hW : wr.alloc _ = W1 at *
   have hb1 : Below wr.heap.size wr W1 := by rw [← hW]; exact below1 _ _
   have q1 : Is W1 wr.heap.size 26 (cV u a2 cap2) := by rw [← hW]; exact Is.new _ _ _
   clear hW
   obtain ⟨x0, x1, x2, x3, x4⟩ := q1.cells5
   have lx := q1.lt
   have hs1 := hb1.size
   have HP1 := Lib.hid (HPj.out.below hb1)
   have HB1 := Lib.hid (HBj.out.trans (hb1.mono (by omega)))
   have HQ1 := Lib.hid (HQ.out.below hb1 (by omega))
   clear hb1 q1
   go_wp2_with fail
   refine (HPV.out _ a2 cap2 B g _ HQ1.out HWF.out (by omega) hB HP1.out (fun x hx => by
    rcases List.mem_append.1 hx with h | h
    ·exact HU.out x h
    ·rcases List.mem_append.1 h with h | h
     ·exact headL_u8 _ _ _ x h
     ·exact packGs_u8 false _ x h) (by simp only [List.length_append]; omega)).mono ?_
   rintro ee w4 ⟨rfl, hp4, hb4⟩
   have HP4 : Hid (Pg true false w4 g (b ++ (headL m n 8 ++ packGs false (l.take (j + 1))))) := Lib.hid (by rw [HS.out]; exact hp4)
   have HB4 := Lib.hid (HB1.out.trans hb4)
   clear hp4 hb4
   go_wp2_with fail
   go_roundw
   case rel => exact ⟨j + 1, by omega, by go_num, HP4, HB4⟩
   case measure => simp [intOf]; omega
  ·have hjj : l.length = j := by omega
   have HJ := Lib.hid (show l.take j = l from by rw [← hjj, List.take_length])
   rw [HJ.out] at HPj
   go_wp2_with fail
   (first | go_end0 | refine bodyPost_ret (results_none rfl _ _ _) rfl ?_)
   exact ⟨rfl, HPj.out, HBj.out⟩
set_option maxHeartbeats 4000000 in
theorem impl_openElems6 (l : List T) (IH : Hid (∀ t ∈ l, PVg true t)) (b : List Int) (n : Int) (a : Option Addr) (cap B g : Nat) (w : World) (hr : R w B a cap l) (hsz : T.szL l ≤ 1048576) (hB : B ≤ g) (hp : Pg false true w g b) (hn : 0 ≤ n ∧ n ≤ 1000000000000000) (hbu : ∀ x ∈ b, U8 x) (hz : b.length + 19 + 20 * T.szL l ≤ 1073741824) :
  Calls Tryz.prog 128 #[.pointer (some ⟨g, 0, none⟩), .int .i64 6, .int .i64 n, .slice a l.length cap] w fun e w' => e = .returned (.tuple #[]) ∧ Pg false true w' g (b ++ (hdL 6 n ++ packGs true l)) ∧ Below g w w' := by
 have hg := hp.lt
 obtain ⟨hl1, hl2⟩ := hr.len
 have HP := Lib.hid hp
 have HN := Lib.hid hn
 have HU := Lib.hid hbu
 have HR := Lib.hid hr
 obtain ⟨a0, cap0, hp1, hp2⟩ := hp
 obtain ⟨e0, e1, e2⟩ := hp1.cells3
 clear hp1 hp2 hbu hn hr
 go_enter Tryz.func128, Tryz.ntmps128
 go_wp2_with fail
 refine (impl_openNumber b 6 n g w HP.out ⟨by decide, by decide⟩ HN.out (by omega)).mono ?_
 rintro ee w2 ⟨rfl, hp2, hb2⟩
 have HB2 := Lib.hid hb2
 have HP2 := Lib.hid hp2
 have hg2 := hp2.lt
 clear hb2 hp2 HP
 have hl9 := hdL_len 6 n
 go_wp2_with fail
 go_loopw [30] (fun i wr => ∃ (j : Nat), j ≤ l.length ∧ i = .int .i64 j ∧ Hid (Pg false true wr g (b ++ (hdL 6 n ++ packGs true (l.take j)))) ∧ Hid (Below g w wr)) (fun i _ => l.length - (intOf i).toNat)
 case atStart => exact ⟨0, Nat.zero_le _, rfl, Lib.hid (by rw [List.take_zero, packGs, List.append_nil]; exact HP2.out), HB2⟩
 case round =>
  obtain ⟨j, hj, rfl, HPj, HBj⟩ := hrel
  have hgr := HPj.out.lt
  by_cases hlt : j < l.length
  ·obtain ⟨bb, o, a2, cap2, rfl, hbl2, d0, d1, d2, d3, d4, hwf, hq⟩ := (HR.out.below HBj.out hB).get j hlt
   have hszj := T.sz_get l j hlt
   have h1 := T.szL_take_succ l j hlt
   have h2 := T.szL_take_le l (j + 1)
   have h3 := packGs_len true (l.take j)
   have hlb : bb < wr.heap.size := by omega
   have HWF := Lib.hid hwf
   have HQ := Lib.hid hq
   have HS := Lib.hid (show b ++ (hdL 6 n ++ packGs true (l.take (j + 1))) = (b ++ (hdL 6 n ++ packGs true (l.take j))) ++ packG true l[j] from by rw [packGs_succ true l j hlt]; simp only [List.append_assoc])
   obtain ⟨u, hu⟩ : ∃ u, l[j] = u := ⟨_, rfl⟩
   have HPV : Hid (PVg true u) := Lib.hid (by rw [← hu]; exact IH.out l[j] (List.getElem_mem hlt))
   rw [hu] at d0 d1 d2 d3 d4 HQ HWF HS hszj h1
   clear hwf hq hu
   go_wp2_with fail
   generalize hW : wr.alloc _ = W1 at *
   have hb1 : Below wr.heap.size wr W1 := by rw [← hW]; exact below1 _ _
   have q1 : Is W1 wr.heap.size 26 (cV u a2 cap2) := by rw [← hW]; exact Is.new _ _ _
   clear hW
   obtain ⟨x0, x1, x2, x3, x4⟩ := q1.cells5
   have lx := q1.lt
   have hs1 := hb1.size
   have HP1 := Lib.hid (HPj.out.below hb1)
   have HB1 := Lib.hid (HBj.out.trans (hb1.mono (by omega)))
   have HQ1 := Lib.hid (HQ.out.below hb1 (by omega))
   clear hb1 q1
   go_wp2_with fail
   refine (HPV.out _ a2 cap2 B g _ HQ1.out HWF.out (by omega) hB HP1.out (fun x hx => by
    rcases List.mem_append.1 hx with h | h
    ·exact HU.out x h
    ·rcases List.mem_append.1 h with h | h
     ·exact hdL_u8 _ _ x h
     ·exact packGs_u8 true _ x h) (by simp only [List.length_append]; omega)).mono ?_
   rintro ee w4 ⟨rfl, hp4, hb4⟩
   have HP4 : Hid (Pg false true w4 g (b ++ (hdL 6 n ++ packGs true (l.take (j + 1))))) := Lib.hid (by rw [HS.out]; exact hp4)
   have HB4 := Lib.hid (HB1.out.trans hb4)
   clear hp4 hb4
   go_wp2_with fail
   go_roundw
   case rel => exact ⟨j + 1, by omega, by go_num, HP4, HB4⟩
   case measure => simp [intOf]; omega
  ·have hjj : l.length = j := by omega
   have HJ := Lib.hid (show l.take j = l from by rw [← hjj, List.take_length])
   rw [HJ.out] at HPj
   go_wp2_with fail
   (first | go_end0 | refine bodyPost_ret (results_none rfl _ _ _) rfl ?_)
   exact ⟨rfl, HPj.out, HBj.out⟩
set_option maxHeartbeats 4000000 in
theorem impl_openElems (l : List T) (IH : Hid (∀ t ∈ l, PVg true t)) (b : List Int) (m n : Int) (a : Option Addr) (cap B g : Nat) (w : World) (hr : R w B a cap l) (hsz : T.szL l ≤ 1048576) (hB : B ≤ g) (hp : Pg false true w g b) (hm : m ≠ 6) (hn : 0 ≤ n ∧ n ≤ 1000000000000000) (hbu : ∀ x ∈ b, U8 x) (hz : b.length + 19 + 20 * T.szL l ≤ 1073741824) :
  Calls Tryz.prog 128 #[.pointer (some ⟨g, 0, none⟩), .int .i64 m, .int .i64 n, .slice a l.length cap] w fun e w' => e = .returned (.tuple #[]) ∧ Pg false true w' g (b ++ (headL m 0 (-1) ++ (packGs true l ++ [255]))) ∧ Below g w w' := by
 have hg := hp.lt
 obtain ⟨hl1, hl2⟩ := hr.len
 have HP := Lib.hid hp
 have HN := Lib.hid hn
 have HU := Lib.hid hbu
 have HR := Lib.hid hr
 obtain ⟨a0, cap0, hp1, hp2⟩ := hp
 obtain ⟨e0, e1, e2⟩ := hp1.cells3
 clear hp1 hp2 hbu hn hr
 go_enter Tryz.func128, Tryz.ntmps128
 go_wp2_with fail
 refine (impl_openHead b m 0 (-1) g w HP.out ⟨by decide, by decide⟩ (by omega)).mono ?_
 rintro ee w2 ⟨rfl, hp2, hb2⟩
 have HB2 := Lib.hid hb2
 have HP2 := Lib.hid hp2
 have hg2 := hp2.lt
 clear hb2 hp2 HP
 have hl9 := headL_len m 0 (-1)
 go_wp2_with fail
 go_loopw [30] (fun i wr => ∃ (j : Nat), j ≤ l.length ∧ i = .int .i64 j ∧ Hid (Pg false true wr g (b ++ (headL m 0 (-1) ++ packGs true (l.take j)))) ∧ Hid (Below g w wr)) (fun i _ => l.length - (intOf i).toNat)
 case atStart => exact ⟨0, Nat.zero_le _, rfl, Lib.hid (by rw [List.take_zero, packGs, List.append_nil]; exact HP2.out), HB2⟩
 case round =>
  obtain ⟨j, hj, rfl, HPj, HBj⟩ := hrel
  have hgr := HPj.out.lt
  by_cases hlt : j < l.length
  ·obtain ⟨bb, o, a2, cap2, rfl, hbl2, d0, d1, d2, d3, d4, hwf, hq⟩ := (HR.out.below HBj.out hB).get j hlt
   have hszj := T.sz_get l j hlt
   have h1 := T.szL_take_succ l j hlt
   have h2 := T.szL_take_le l (j + 1)
   have h3 := packGs_len true (l.take j)
   have hlb : bb < wr.heap.size := by omega
   have HWF := Lib.hid hwf
   have HQ := Lib.hid hq
   have HS := Lib.hid (show b ++ (headL m 0 (-1) ++ packGs true (l.take (j + 1))) = (b ++ (headL m 0 (-1) ++ packGs true (l.take j))) ++ packG true l[j] from by rw [packGs_succ true l j hlt]; simp only [List.append_assoc])
   obtain ⟨u, hu⟩ : ∃ u, l[j] = u := ⟨_, rfl⟩
   have HPV : Hid (PVg true u) := Lib.hid (by rw [← hu]; exact IH.out l[j] (List.getElem_mem hlt))
   rw [hu] at d0 d1 d2 d3 d4 HQ HWF HS hszj h1
   clear hwf hq hu
   go_wp2_with fail
   generalize hW : wr.alloc _ = W1 at *
   have hb1 : Below wr.heap.size wr W1 := by rw [← hW]; exact below1 _ _
   have q1 : Is W1 wr.heap.size 26 (cV u a2 cap2) := by rw [← hW]; exact Is.new _ _ _
   clear hW
   obtain ⟨x0, x1, x2, x3, x4⟩ := q1.cells5
   have lx := q1.lt
   have hs1 := hb1.size
   have HP1 := Lib.hid (HPj.out.below hb1)
   have HB1 := Lib.hid (HBj.out.trans (hb1.mono (by omega)))
   have HQ1 := Lib.hid (HQ.out.below hb1 (by omega))
   clear hb1 q1
   go_wp2_with fail
   refine (HPV.out _ a2 cap2 B g _ HQ1.out HWF.out (by omega) hB HP1.out (fun x hx => by
    rcases List.mem_append.1 hx with h | h
    ·exact HU.out x h
    ·rcases List.mem_append.1 h with h | h
     ·exact headL_u8 _ _ _ x h
     ·exact packGs_u8 true _ x h) (by simp only [List.length_append]; omega)).mono ?_
   rintro ee w4 ⟨rfl, hp4, hb4⟩
   have HP4 : Hid (Pg false true w4 g (b ++ (headL m 0 (-1) ++ packGs true (l.take (j + 1))))) := Lib.hid (by rw [HS.out]; exact hp4)
   have HB4 := Lib.hid (HB1.out.trans hb4)
   clear hp4 hb4
   go_wp2_with fail
   go_roundw
   case rel => exact ⟨j + 1, by omega, by go_num, HP4, HB4⟩
   case measure => simp [intOf]; omega
  ·have hjj : l.length = j := by omega
   have HJ := Lib.hid (show l.take j = l from by rw [← hjj, List.take_length])
   rw [HJ.out] at HPj
   have hK : (b ++ (headL m 0 (-1) ++ packGs true l)).length ≤ 1073741824 := by have := packGs_len true l; simp only [List.length_append]; omega
   have HU2 := Lib.hid (u8_app HU.out (u8_app (headL_u8 m 0 (-1)) (packGs_u8 true l)))
   have HF := Lib.hid (show b ++ (headL m 0 (-1) ++ (packGs true l ++ [255])) = (b ++ (headL m 0 (-1) ++ packGs true l)) ++ [255] from by simp only [List.append_assoc])
   generalize b ++ (headL m 0 (-1) ++ packGs true l) = K at *
   obtain ⟨a5, c5, i5, _, a6, c6, w6, hrun, i6, hp6, hb6⟩ := HPj.out.app HU2.out hK
   obtain ⟨f0, f1, f2⟩ := i5.cells3
   obtain ⟨y0, y1, y2⟩ := i6.cells3
   have ff := fun i => i6.frozen i
   have hg5 := i5.lt
   have hg6 : g < w6.heap.size := i6.lt
   have HP6 := Lib.hid hp6; have HB6 := Lib.hid (HBj.out.trans hb6)
   clear i5 i6 hp6 hb6
   go_wp2_with (at_builtin; refine Lib.wpList_append_run _ rfl _ _ _ _ rfl _ _ rfl rfl _ _ hrun ?_)
   (first | go_end0 | refine bodyPost_ret (results_none rfl _ _ _) rfl ?_)
   exact ⟨rfl, by rw [HF.out]; exact HP6.out, HB6.out⟩
theorem impl_pgElems (o : Bool) (l : List T) (IH : Hid (∀ t ∈ l, PVg o t)) (b : List Int) (m n : Int) (a : Option Addr) (cap B g : Nat) (w : World) (hr : R w B a cap l) (hsz : T.szL l ≤ 1048576) (hB : B ≤ g) (hp : Pg (!o) o w g b) (hm : 0 ≤ m ∧ m < 6) (hn : 0 ≤ n ∧ n ≤ 1000000000000000) (hbu : ∀ x ∈ b, U8 x) (hz : b.length + 19 + 20 * T.szL l ≤ 1073741824) :
  Calls Tryz.prog 128 #[.pointer (some ⟨g, 0, none⟩), .int .i64 m, .int .i64 n, .slice a l.length cap] w fun e w' => e = .returned (.tuple #[]) ∧ Pg (!o) o w' g (b ++ elG o m n (packGs o l)) ∧ Below g w w' := by
 cases o
 ·exact impl_wideElems l IH b m n a cap B g w hr hsz hB hp ⟨hm.1, by omega⟩ hn hbu hz
 ·exact impl_openElems l IH b m n a cap B g w hr hsz hB hp (by omega) hn hbu hz
theorem impl_pgElems6 (o : Bool) (l : List T) (IH : Hid (∀ t ∈ l, PVg o t)) (b : List Int) (n : Int) (a : Option Addr) (cap B g : Nat) (w : World) (hr : R w B a cap l) (hsz : T.szL l ≤ 1048576) (hB : B ≤ g) (hp : Pg (!o) o w g b) (hn : 0 ≤ n ∧ n ≤ 1000000000000000) (hbu : ∀ x ∈ b, U8 x) (hz : b.length + 19 + 20 * T.szL l ≤ 1073741824) :
  Calls Tryz.prog 128 #[.pointer (some ⟨g, 0, none⟩), .int .i64 6, .int .i64 n, .slice a l.length cap] w fun e w' => e = .returned (.tuple #[]) ∧ Pg (!o) o w' g (b ++ (nuG o 6 n ++ packGs o l)) ∧ Below g w w' := by
 cases o
 ·exact impl_wideElems l IH b 6 n a cap B g w hr hsz hB hp ⟨by decide, by decide⟩ hn hbu hz
 ·exact impl_openElems6 l IH b n a cap B g w hr hsz hB hp hn hbu hz
end Go.Proofs.YtggdenkmohnijaaGreatDoor
