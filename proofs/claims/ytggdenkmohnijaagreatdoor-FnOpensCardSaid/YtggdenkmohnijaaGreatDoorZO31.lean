/- Texts of this proof, merged: PgI1, PgI2. No condition beyond what each theorem states. -/
import Derived.Test.YtggdenkmohnijaaGreatDoorZO30
set_option linter.unusedSimpArgs false
set_option linter.unnecessarySimpa false
namespace Go.Proofs.YtggdenkmohnijaaGreatDoor
open Go.ChangeShapes Go.WideShapes Go.ChangeAt Go.RowKit Go.Joins
set_option linter.unusedVariables false
set_option maxRecDepth 100000
def Pg (wd op : Bool) (w : World) (g : Nat) (b : List Int) : Prop := ∃ (a : Option Addr) (cap : Nat), Is w g 52 #[.slice a b.length cap, .bool wd, .bool op] ∧ AppL EByte 1 5 w (g + 1) a cap b []
theorem Pg.lt {wd op : Bool} {w : World} {g : Nat} {b : List Int} (h : Pg wd op w g b) : g < w.heap.size := by obtain ⟨_, _, h, _⟩ := h; exact h.lt
theorem Pg.below {wd op : Bool} {w w' : World} {g : Nat} {b : List Int} (h : Pg wd op w g b) (hb : Below w.heap.size w w') : Pg wd op w' g b := by
 have hl := h.lt
 obtain ⟨a, cap, h1, h2⟩ := h
 exact ⟨a, cap, h1.below hb hl, h2.agree EByte.elem (fun f hf => hb.block f hf) (by omega)⟩
theorem Pg.stored {wd op : Bool} {w : World} {g : Nat} {b b' : List Int} {a a' : Option Addr} {cap cap' : Nat} (h : Is w g 52 #[.slice a b.length cap, .bool wd, .bool op]) (h2 : AppL EByte 1 5 w (g + 1) a' cap' b' []) : Pg wd op (w.setCell ⟨g, 0, none⟩ (.slice a' b'.length cap')) g b' :=
 ⟨a', cap', h.set 0 _, h2.agreeB EByte.elem (fun f hf _ => heap_miss _ _ _ _ (by omega) _)⟩
set_option maxHeartbeats 8000000 in
theorem impl_openHead (b : List Int) (m n k : Int) (g : Nat) (w : World) (hp : Pg false true w g b) (hn : I64 n) (hz : b.length ≤ 1073741824) :
  Calls Tryz.prog 129 #[.pointer (some ⟨g, 0, none⟩), .agg (cH m n k)] w fun e w' => e = .returned (.tuple #[]) ∧ Pg false true w' g (b ++ headL m n k) ∧ Below g w w' := by
 have hg := hp.lt
 have q0 := Is.new w (cH m n k) 56
 have HB0 := Lib.hid (below1 w (.cells (cH m n k) 56))
 have HP := Lib.hid hp
 obtain ⟨a, cap, hp1, hp2⟩ := hp
 have p1 := hp1.alloc (.cells (cH m n k) 56)
 obtain ⟨c0, c1, c2⟩ := q0.cells3
 obtain ⟨e0, e1, e2⟩ := p1.cells3
 have lg : w.heap.size < (w.alloc (.cells (cH m n k) 56)).heap.size := by simp
 have lg1 : g < (w.alloc (.cells (cH m n k) 56)).heap.size := by simp; omega
 obtain ⟨bb, hbb⟩ : ∃ r, decide (headOk m n k) = r := ⟨_, rfl⟩
 have HBB := Lib.hid hbb
 have HN := Lib.hid hn
 clear hbb hn
 go_enter Tryz.func129, Tryz.ntmps129
 go_wp2_with fail
 refine (impl_HeadOk m n k _ HN.out).mono ?_
 rintro ee w2 ⟨rfl, hb2⟩
 rw [HBB.out]
 have q2 := q0.below hb2 lg
 have p2 := p1.below hb2 lg1
 obtain ⟨d0, d1, d2⟩ := q2.cells3
 obtain ⟨f0, f1, f2⟩ := p2.cells3
 have ff := fun i => p2.frozen i
 have lg2 : w.heap.size < w2.heap.size := q2.lt
 have lg3 : g < w2.heap.size := by omega
 have HB2 := Lib.hid (HB0.out.trans (hb2.mono (by simp)))
 have HA2 := Lib.hid (hp2.agree EByte.elem (fun f hf => HB2.out.block f hf) (by omega))
 have P2 := Lib.hid p2
 clear c0 c1 c2 e0 e1 e2 hb2 q0 q2 lg lg1 HB0 p1 p2 hp1 hp2
 cases bb with
 | false =>
  have HE := Lib.hid (show b ++ headL m n k = b from by unfold headL; rw [if_neg (of_decide_eq_false HBB.out), List.append_nil])
  go_wp2_with fail
  go_end0
  exact ⟨rfl, by rw [HE.out]; exact HP.out.below HB2.out, HB2.out.mono (by omega)⟩
 | true =>
  have CP := Lib.hid (fun (W : World) (h : Below w2.heap.size w2 W) => impl_PutHead b m n k a cap w2.heap.size W ((HA2.out.rd (by omega)).below EByte.loc h (Nat.le_refl _)) HN.out hz h.size)
  go_wp2_with fail
  go_region_with (go_at_call 191; refine (CP.out _ ?_).mono ?_; (first | exact Below.refl _ _ | exact (Below.refl _ _).drew | exact below_drewN _ _ _); rintro e w3 ⟨a3, c3, rfl, happ3, hb3⟩; have hs3 := hb3.size; have p3 := P2.out.agree (hb3.block g (by first | omega | (simp only [World.size_drew]; omega))); obtain ⟨x0, x1, x2⟩ := p3.cells3; have ff3 := fun i => p3.frozen i; have lg4 := p3.lt; have HX3 := Lib.hid (show Below g w2 w3 from by first | exact hb3.mono (by omega) | exact ((Below.refl _ _).drew).trans (hb3.mono (by simp only [World.size_drew]; omega))); have HA3 := Lib.hid (happ3.less (show g + 1 ≤ _ by first | omega | (simp only [World.size_drew]; omega))); clear happ3 hb3)
  all_goals
   go_wp2_with fail
   go_end0
   have hst := Pg.stored p3 HA3.out
   rw [List.length_append] at hst
   exact ⟨rfl, hst, ((HB2.out.mono (by omega)).trans HX3.out).trans (below1s _ _ _ _)⟩
set_option maxHeartbeats 8000000 in
theorem impl_wideHead (b : List Int) (m n k : Int) (g : Nat) (w : World) (hp : Pg true false w g b) (hn : I64 n) (ho : headOk m n k) (ho8 : headOk m n 8) (hm : m < 7) (hz : b.length ≤ 1073741824) :
  Calls Tryz.prog 129 #[.pointer (some ⟨g, 0, none⟩), .agg (cH m n k)] w fun e w' => e = .returned (.tuple #[]) ∧ Pg true false w' g (b ++ headL m n 8) ∧ Below g w w' := by
 have hg := hp.lt
 have q0 := Is.new w (cH m n k) 56
 have HB0 := Lib.hid (below1 w (.cells (cH m n k) 56))
 have HP := Lib.hid hp
 obtain ⟨a, cap, hp1, hp2⟩ := hp
 have p1 := hp1.alloc (.cells (cH m n k) 56)
 obtain ⟨c0, c1, c2⟩ := q0.cells3
 obtain ⟨e0, e1, e2⟩ := p1.cells3
 have lg : w.heap.size < (w.alloc (.cells (cH m n k) 56)).heap.size := by simp
 have lg1 : g < (w.alloc (.cells (cH m n k) 56)).heap.size := by simp; omega
 have D1 := Lib.hid (show decide (headOk m n k) = true from decide_eq_true ho)
 have D2 := Lib.hid (show decide (headOk m n 8) = true from decide_eq_true ho8)
 have HN := Lib.hid hn
 clear ho ho8 hn
 go_enter Tryz.func129, Tryz.ntmps129
 go_wp2_with fail
 refine (impl_HeadOk m n k _ HN.out).mono ?_
 rintro ee w2 ⟨rfl, hb2⟩
 rw [D1.out]
 have q2 := q0.below hb2 lg
 have p2 := p1.below hb2 lg1
 obtain ⟨d0, d1, d2⟩ := q2.cells3
 obtain ⟨f0, f1, f2⟩ := p2.cells3
 have ff := fun i => p2.frozen i
 have gg := fun i => q2.frozen i
 have lg2 : w.heap.size < w2.heap.size := q2.lt
 have lg3 : g < w2.heap.size := by omega
 have HB2 := Lib.hid (HB0.out.trans (hb2.mono (by simp)))
 have Q3 := Lib.hid (q2.set 2 (.int .i64 8))
 have P3 := Lib.hid (p2.miss w.heap.size 2 (by omega) (.int .i64 8))
 have HB3 := Lib.hid (HB2.out.trans ((Below.refl w.heap.size w2).setCell (p := ⟨w.heap.size, 2, none⟩) (Nat.le_refl _) (.int .i64 8)))
 have HA3 := Lib.hid (hp2.agree EByte.elem (fun f hf => HB3.out.block f hf) (by omega))
 have l3 : w.heap.size < (w2.setCell ⟨w.heap.size, 2, none⟩ (.int .i64 8)).heap.size := Q3.out.lt
 clear c0 c1 c2 e0 e1 e2 hb2 q0 lg lg1 HB0 p1 hp1 hp2
 have hs3 : (w2.setCell ⟨w.heap.size, 2, none⟩ (.int .i64 8)).heap.size = w2.heap.size := size_set _ _ _
 go_upto_region 3 with (fail)
 generalize w2.setCell ⟨w.heap.size, 2, none⟩ (.int .i64 8) = w3 at *
 obtain ⟨x0, x1, x2⟩ := Q3.out.cells3
 have lg4 : g < w3.heap.size := by omega
 go_wp2_with fail
 refine (impl_HeadOk m n 8 _ HN.out).mono ?_
 rintro ee w4 ⟨rfl, hb4⟩
 rw [D2.out]
 have q4 := Q3.out.below hb4 l3
 have p4 := P3.out.below hb4 lg4
 have HB4 := Lib.hid (HB3.out.trans (hb4.mono (by omega)))
 have HA4 := Lib.hid (HA3.out.agree EByte.elem (fun f hf => hb4.block f (by omega)) (by omega))
 have P4 := Lib.hid p4
 have lg5 : w.heap.size < w4.heap.size := q4.lt
 have lg6 : g < w4.heap.size := p4.lt
 clear d0 d1 d2 f0 f1 f2 ff gg x0 x1 x2 q2 p2 Q3 P3 HA3
 obtain ⟨x0, x1, x2⟩ := q4.cells3
 obtain ⟨y0, y1, y2⟩ := p4.cells3
 have ff := fun i => p4.frozen i
 have CP := Lib.hid (fun (W : World) (h : Below w4.heap.size w4 W) => impl_PutHead b m n 8 a cap w4.heap.size W ((HA4.out.rd (by omega)).below EByte.loc h (Nat.le_refl _)) HN.out hz h.size)
 clear q4 p4 hb4
 go_wp2_with fail
 go_region_with (go_at_call 191; refine (CP.out _ ?_).mono ?_; (first | exact Below.refl _ _ | exact (Below.refl _ _).drew | exact below_drewN _ _ _); rintro e w5 ⟨a5, c5, rfl, happ5, hb5⟩; have hs5 := hb5.size; have p5 := P4.out.agree (hb5.block g (by first | omega | (simp only [World.size_drew]; omega))); obtain ⟨u0, u1, u2⟩ := p5.cells3; have ff5 := fun i => p5.frozen i; have lg7 := p5.lt; have HX5 := Lib.hid (show Below g w4 w5 from by first | exact hb5.mono (by omega) | exact ((Below.refl _ _).drew).trans (hb5.mono (by simp only [World.size_drew]; omega))); have HA5 := Lib.hid (happ5.less (show g + 1 ≤ _ by first | omega | (simp only [World.size_drew]; omega))); clear happ5 hb5)
 all_goals
  go_wp2_with fail
  go_end0
  have hst := Pg.stored p5 HA5.out
  rw [List.length_append] at hst
  exact ⟨rfl, hst, ((HB4.out.mono (by omega)).trans HX5.out).trans (below1s _ _ _ _)⟩
set_option maxHeartbeats 8000000 in
theorem impl_wideHead7 (b : List Int) (n k : Int) (g : Nat) (w : World) (hp : Pg true false w g b) (hn : I64 n) (hz : b.length ≤ 1073741824) :
  Calls Tryz.prog 129 #[.pointer (some ⟨g, 0, none⟩), .agg (cH 7 n k)] w fun e w' => e = .returned (.tuple #[]) ∧ Pg true false w' g (b ++ headL 7 n k) ∧ Below g w w' := by
 have hg := hp.lt
 have q0 := Is.new w (cH 7 n k) 56
 have HB0 := Lib.hid (below1 w (.cells (cH 7 n k) 56))
 have HP := Lib.hid hp
 obtain ⟨a, cap, hp1, hp2⟩ := hp
 have p1 := hp1.alloc (.cells (cH 7 n k) 56)
 obtain ⟨c0, c1, c2⟩ := q0.cells3
 obtain ⟨e0, e1, e2⟩ := p1.cells3
 have lg : w.heap.size < (w.alloc (.cells (cH 7 n k) 56)).heap.size := by simp
 have lg1 : g < (w.alloc (.cells (cH 7 n k) 56)).heap.size := by simp; omega
 obtain ⟨bb, hbb⟩ : ∃ r, decide (headOk 7 n k) = r := ⟨_, rfl⟩
 have HBB := Lib.hid hbb
 have HN := Lib.hid hn
 clear hbb hn
 go_enter Tryz.func129, Tryz.ntmps129
 go_wp2_with fail
 refine (impl_HeadOk 7 n k _ HN.out).mono ?_
 rintro ee w2 ⟨rfl, hb2⟩
 rw [HBB.out]
 have q2 := q0.below hb2 lg
 have p2 := p1.below hb2 lg1
 obtain ⟨d0, d1, d2⟩ := q2.cells3
 obtain ⟨f0, f1, f2⟩ := p2.cells3
 have ff := fun i => p2.frozen i
 have lg2 : w.heap.size < w2.heap.size := q2.lt
 have lg3 : g < w2.heap.size := by omega
 have HB2 := Lib.hid (HB0.out.trans (hb2.mono (by simp)))
 have HA2 := Lib.hid (hp2.agree EByte.elem (fun f hf => HB2.out.block f hf) (by omega))
 have P2 := Lib.hid p2
 have Q2 := Lib.hid q2
 clear c0 c1 c2 e0 e1 e2 hb2 q0 q2 lg lg1 HB0 p1 p2 hp1 hp2
 cases bb with
 | false =>
  have HE := Lib.hid (show b ++ headL 7 n k = b from by unfold headL; rw [if_neg (of_decide_eq_false HBB.out), List.append_nil])
  go_wp2_with fail
  refine (impl_HeadOk 7 n k _ HN.out).mono ?_
  rintro ee w4 ⟨rfl, hb4⟩
  rw [HBB.out]
  have HB4 := Lib.hid (HB2.out.trans (hb4.mono (by omega)))
  go_wp2_with fail
  go_end0
  exact ⟨rfl, by rw [HE.out]; exact HP.out.below HB4.out, HB4.out.mono (by omega)⟩
 | true =>
  go_wp2_with fail
  refine (impl_HeadOk 7 n k _ HN.out).mono ?_
  rintro ee w4 ⟨rfl, hb4⟩
  rw [HBB.out]
  have q4 := Q2.out.below hb4 lg2
  have p4 := P2.out.below hb4 lg3
  have HB4 := Lib.hid (HB2.out.trans (hb4.mono (by omega)))
  have HA4 := Lib.hid (HA2.out.agree EByte.elem (fun f hf => hb4.block f (by omega)) (by omega))
  have P4 := Lib.hid p4
  have lg5 : w.heap.size < w4.heap.size := q4.lt
  have lg6 : g < w4.heap.size := p4.lt
  clear d0 d1 d2 f0 f1 f2 ff
  obtain ⟨x0, x1, x2⟩ := q4.cells3
  obtain ⟨y0, y1, y2⟩ := p4.cells3
  have ff := fun i => p4.frozen i
  have CP := Lib.hid (fun (W : World) (h : Below w4.heap.size w4 W) => impl_PutHead b 7 n k a cap w4.heap.size W ((HA4.out.rd (by omega)).below EByte.loc h (Nat.le_refl _)) HN.out hz h.size)
  clear q4 p4 hb4
  go_wp2_with fail
  go_region_with (go_at_call 191; refine (CP.out _ ?_).mono ?_; (first | exact Below.refl _ _ | exact (Below.refl _ _).drew | exact below_drewN _ _ _); rintro e w5 ⟨a5, c5, rfl, happ5, hb5⟩; have hs5 := hb5.size; have p5 := P4.out.agree (hb5.block g (by first | omega | (simp only [World.size_drew]; omega))); obtain ⟨u0, u1, u2⟩ := p5.cells3; have ff5 := fun i => p5.frozen i; have lg7 := p5.lt; have HX5 := Lib.hid (show Below g w4 w5 from by first | exact hb5.mono (by omega) | exact ((Below.refl _ _).drew).trans (hb5.mono (by simp only [World.size_drew]; omega))); have HA5 := Lib.hid (happ5.less (show g + 1 ≤ _ by first | omega | (simp only [World.size_drew]; omega))); clear happ5 hb5)
  all_goals
   go_wp2_with fail
   go_end0
   have hst := Pg.stored p5 HA5.out
   rw [List.length_append] at hst
   exact ⟨rfl, hst, ((HB4.out.mono (by omega)).trans HX5.out).trans (below1s _ _ _ _)⟩
theorem Pg.app {wd op : Bool} {w : World} {g : Nat} {L : List Int} (h : Pg wd op w g L) (hu : ∀ x ∈ L, U8 x) (hz : L.length ≤ 1073741824) : ∃ a cap, Is w g 52 #[.slice a L.length cap, .bool wd, .bool op] ∧
    (∀ s : ByteArray, s.size ≤ 1073741824 → ∃ a' cap' w', (Builtin.append_ #[22, 9] 22 #[.slice a L.length cap, .string s]).run Tryz.prog w = .ok (.slice a' (L.length + s.size) cap') w' ∧ Is w' g 52 #[.slice a L.length cap, .bool wd, .bool op] ∧
      Pg wd op (w'.setCell ⟨g, 0, none⟩ (.slice a' (L.length + s.size) cap')) g (L ++ byteL s) ∧ Below g w (w'.setCell ⟨g, 0, none⟩ (.slice a' (L.length + s.size) cap'))) ∧
    (∃ a' cap' w', (Builtin.append_ #[22, 22] 22 #[.slice a L.length cap, .slice (some ⟨w.heap.size, 0, none⟩) 1 1]).run Tryz.prog (w.alloc (.cells #[.int .u8 255] 5)) = .ok (.slice a' (L.length + 1) cap') w' ∧ Is w' g 52 #[.slice a L.length cap, .bool wd, .bool op] ∧
      Pg wd op (w'.setCell ⟨g, 0, none⟩ (.slice a' (L.length + 1) cap')) g (L ++ [255]) ∧ Below g w (w'.setCell ⟨g, 0, none⟩ (.slice a' (L.length + 1) cap'))) := by
  have hg := h.lt
  obtain ⟨a, cap, i, happ⟩ := h
  have hrow := happ.row
  refine ⟨a, cap, i, fun s hs => ?_, ?_⟩
  · obtain ⟨a3, c3, w3, hrun, happ3, hb3, hout3, hsz3⟩ := run_appStr (P := Tryz.prog) w 22 9 22 Tryz.underlying22 Tryz.underlying9 info_Byte2 (g + 1) a cap L hu happ (by omega) s (by omega)
    have i3 := i.agree (hout3 g hg (fun k hk => by have := (hrow k hk).1; omega))
    have hl : (L ++ byteL s).length = L.length + s.size := by rw [List.length_append, byteL_len]
    have hst := Pg.stored i3 happ3
    rw [hl] at hrun hst
    exact ⟨a3, c3, w3, hrun, i3, hst, (hb3.mono (by omega)).trans (below1s w3 g 0 _)⟩
  · obtain ⟨hp1, hp2⟩ := happ.cap
    obtain ⟨a3, c3, w3, hrun, happ3, hb3, hout3, _, _⟩ := run_appL (P := Tryz.prog) (w.alloc (.cells #[.int .u8 255] 5)) EByte.elem 22 22 (.int .u8 0) 1 Tryz.underlying22 info_Byte2 rfl (g + 1) a cap L [] (happ.agree EByte.elem (fun f hf => (below1 w _).block f hf) (by omega)) (by simp; omega) hp1 (some ⟨w.heap.size, 0, none⟩) 1 [255] [] (Srcs.one ⟨rfl, (Is.new w #[.int .u8 255] 5).cell 0 rfl, ⟨by decide, by decide⟩⟩) (by simp) (by simp [maxLen]; omega) (by simp; omega)
    have i2 := i.alloc (.cells #[.int .u8 255] 5)
    have i3 := i2.agree (hout3 g (by simp; omega) (fun k hk => by have := (hrow k hk).1; omega))
    have hl : (L ++ [(255 : Int)]).length = L.length + 1 := by rw [List.length_append]; rfl
    have hst := Pg.stored i3 happ3
    rw [hl] at hrun hst
    exact ⟨a3, c3, w3, hrun, i3, hst, (((below1 w _).mono (by omega)).trans (hb3.mono (by omega))).trans (below1s w3 g 0 _)⟩
theorem impl_HeadForOk2 (m n : Int) (w : World) (hm : 0 ≤ m ∧ m ≤ 7) (hn : 0 ≤ n ∧ n ≤ 1000000000000000) :
  Calls Tryz.prog 190 #[.int .i64 m, .int .i64 n] w fun e w' => (∃ k, e = .returned (.agg (cH m n k)) ∧ headOk m n k ∧ headOk m n 8) ∧ Below w.heap.size w w' := by
 refine (impl_HeadFor m n w ⟨by omega, by omega⟩).mono ?_
 rintro e w' ⟨rfl, hb⟩
 refine ⟨⟨if 23 < n then widthD n else 0, ?_, headFor_ok hm hn, hm, hn, Or.inr (Or.inl ⟨by omega, ?_⟩)⟩, hb⟩
 ·rw [headForD_ok hm hn]
 ·have := widthD_in n hn.1; omega
set_option maxHeartbeats 2000000 in
theorem impl_openNumber (b : List Int) (m n : Int) (g : Nat) (w : World) (hp : Pg false true w g b) (hm : 0 ≤ m ∧ m ≤ 7) (hn : 0 ≤ n ∧ n ≤ 1000000000000000) (hz : b.length ≤ 1073741824) :
  Calls Tryz.prog 126 #[.pointer (some ⟨g, 0, none⟩), .int .i64 m, .int .i64 n] w fun e w' => e = .returned (.tuple #[]) ∧ Pg false true w' g (b ++ hdL m n) ∧ Below g w w' := by
 have hg := hp.lt
 have HP := Lib.hid hp; clear hp
 have HM := Lib.hid hm; have HN := Lib.hid hn
 go_enter Tryz.func126, Tryz.ntmps126
 go_wp2_with fail
 refine (impl_HeadForOk m n _ HM.out HN.out).mono ?_
 rintro ee w2 ⟨⟨kk, rfl, hkk⟩, hb2⟩
 have hs2 := hb2.size
 have HB2 := Lib.hid hb2
 have HKK := Lib.hid hkk
 clear hb2 hkk hm hn
 have q3 := Is.new w2 (cH m n kk) 56
 obtain ⟨c0, c1, c2⟩ := q3.cells3
 have lg3 := q3.lt
 have HP3 := Lib.hid ((HP.out.below HB2.out).below (below1 w2 (.cells (cH m n kk) 56)))
 have HB3 := Lib.hid (HB2.out.trans ((below1 w2 (.cells (cH m n kk) 56)).mono hs2))
 go_wp2_with fail
 refine (impl_openHead b m n kk g _ HP3.out ⟨by have := HN.out; omega, by have := HN.out; omega⟩ hz).mono ?_
 rintro ee w4 ⟨rfl, hp4, hb4⟩
 have HP4 := Lib.hid hp4
 have HB4 := Lib.hid ((HB3.out.mono (by omega)).trans hb4)
 clear hp4 hb4
 go_wp2_with fail
 (first | go_end0 | refine bodyPost_ret (results_none rfl _ _ _) rfl ?_)
 exact ⟨rfl, by rw [HKK.out]; exact HP4.out, HB4.out⟩
set_option maxHeartbeats 2000000 in
theorem impl_wideNumber (b : List Int) (m n : Int) (g : Nat) (w : World) (hp : Pg true false w g b) (hm : 0 ≤ m ∧ m < 7) (hn : 0 ≤ n ∧ n ≤ 1000000000000000) (hz : b.length ≤ 1073741824) :
  Calls Tryz.prog 126 #[.pointer (some ⟨g, 0, none⟩), .int .i64 m, .int .i64 n] w fun e w' => e = .returned (.tuple #[]) ∧ Pg true false w' g (b ++ headL m n 8) ∧ Below g w w' := by
 have hg := hp.lt
 have HP := Lib.hid hp; clear hp
 have HM := Lib.hid hm; have HN := Lib.hid hn
 go_enter Tryz.func126, Tryz.ntmps126
 go_wp2_with fail
 refine (impl_HeadForOk2 m n _ ⟨HM.out.1, by have := HM.out; omega⟩ HN.out).mono ?_
 rintro ee w2 ⟨⟨kk, rfl, hkk, hk8⟩, hb2⟩
 have hs2 := hb2.size
 have HB2 := Lib.hid hb2
 have HKK := Lib.hid hkk
 have HK8 := Lib.hid hk8
 clear hb2 hkk hk8 hm hn
 have q3 := Is.new w2 (cH m n kk) 56
 obtain ⟨c0, c1, c2⟩ := q3.cells3
 have lg3 := q3.lt
 have HP3 := Lib.hid ((HP.out.below HB2.out).below (below1 w2 (.cells (cH m n kk) 56)))
 have HB3 := Lib.hid (HB2.out.trans ((below1 w2 (.cells (cH m n kk) 56)).mono hs2))
 go_wp2_with fail
 refine (impl_wideHead b m n kk g _ HP3.out ⟨by have := HN.out; omega, by have := HN.out; omega⟩ HKK.out HK8.out HM.out.2 hz).mono ?_
 rintro ee w4 ⟨rfl, hp4, hb4⟩
 have HP4 := Lib.hid hp4
 have HB4 := Lib.hid ((HB3.out.mono (by omega)).trans hb4)
 clear hp4 hb4
 go_wp2_with fail
 (first | go_end0 | refine bodyPost_ret (results_none rfl _ _ _) rfl ?_)
 exact ⟨rfl, HP4.out, HB4.out⟩
set_option maxHeartbeats 2000000 in
theorem impl_wideText (b : List Int) (m : Int) (s : ByteArray) (g : Nat) (w : World) (hp : Pg true false w g b) (hm : 0 ≤ m ∧ m < 7) (hbu : ∀ x ∈ b, U8 x) (hz : b.length + 9 ≤ 1073741824) (hs : s.size ≤ 1073741824) :
  Calls Tryz.prog 127 #[.pointer (some ⟨g, 0, none⟩), .int .i64 m, .string s] w fun e w' => e = .returned (.tuple #[]) ∧ Pg true false w' g (b ++ txG false m s) ∧ Below g w w' := by
 have hg := hp.lt
 have HP := Lib.hid hp
 have HM := Lib.hid hm
 have HU := Lib.hid (u8_app hbu (headL_u8 m s.size 8))
 obtain ⟨a, cap, hp1, hp2⟩ := hp
 obtain ⟨e0, e1, e2⟩ := hp1.cells3
 clear hp1 hp2 hbu hm
 have HE := Lib.hid (show b ++ txG false m s = (b ++ headL m s.size 8) ++ byteL s from by rw [List.append_assoc]; rfl)
 have hll : (b ++ headL m s.size 8).length ≤ 1073741824 := by have := headL_len m s.size 8; rw [List.length_append]; omega
 go_enter Tryz.func127, Tryz.ntmps127
 go_wp2_with fail
 refine (impl_wideNumber b m s.size g w HP.out HM.out (by omega) (by omega)).mono ?_
 rintro ee w2 ⟨rfl, hp2, hb2⟩
 have hg2 := hp2.lt
 have HB2 := Lib.hid hb2
 generalize b ++ headL m s.size 8 = L at *
 clear hb2 e0 e1 e2 HP
 obtain ⟨a2, c2, i2, happ, _⟩ := hp2.app HU.out hll
 obtain ⟨a3, c3, w3, hrun, i3, hp3, hb3⟩ := happ s hs
 obtain ⟨f0, f1, f2⟩ := i2.cells3
 obtain ⟨y0, y1, y2⟩ := i3.cells3
 have ff := fun i => i3.frozen i
 have hg3 : g < w3.heap.size := i3.lt
 have HP3 := Lib.hid hp3; have HB3 := Lib.hid (HB2.out.trans hb3)
 clear happ i2 i3 hp2 hp3 hb3
 go_wp2_with (at_builtin; refine Lib.wpList_append_run _ rfl _ _ _ _ rfl _ _ rfl rfl _ _ hrun ?_)
 (first | go_end0 | refine bodyPost_ret (results_none rfl _ _ _) rfl ?_)
 exact ⟨rfl, by rw [HE.out]; exact HP3.out, HB3.out⟩
set_option maxHeartbeats 2000000 in
theorem impl_openText (b : List Int) (m : Int) (s : ByteArray) (g : Nat) (w : World) (hp : Pg false true w g b) (hm : 0 ≤ m ∧ m ≤ 7) (hbu : ∀ x ∈ b, U8 x) (hz : b.length + 19 + s.size ≤ 1073741824) :
  Calls Tryz.prog 127 #[.pointer (some ⟨g, 0, none⟩), .int .i64 m, .string s] w fun e w' => e = .returned (.tuple #[]) ∧ Pg false true w' g (b ++ txG true m s) ∧ Below g w w' := by
 have hg := hp.lt
 have HP := Lib.hid hp
 have HM := Lib.hid hm
 have HU := Lib.hid (u8_app hbu (headL_u8 m 0 (-1)))
 obtain ⟨a, cap, hp1, hp2⟩ := hp
 obtain ⟨e0, e1, e2⟩ := hp1.cells3
 clear hp1 hp2 hbu hm
 have HE := Lib.hid (show b ++ txG true m s = (b ++ headL m 0 (-1)) ++ ((if s.size = 0 then [] else hdL m s.size ++ byteL s) ++ [255]) from by rw [List.append_assoc]; rfl)
 have hll : (b ++ headL m 0 (-1)).length ≤ b.length + 9 := by have := headL_len m 0 (-1); rw [List.length_append]; omega
 go_enter Tryz.func127, Tryz.ntmps127
 go_wp2_with fail
 refine (impl_openHead b m 0 (-1) g w HP.out ⟨by decide, by decide⟩ (by omega)).mono ?_
 rintro ee w2 ⟨rfl, hp2, hb2⟩
 have hg2 := hp2.lt
 have HB2 := Lib.hid hb2
 generalize b ++ headL m 0 (-1) = L at *
 clear hb2 e0 e1 e2 HP
 have HP2 := Lib.hid hp2
 have HZ := Lib.hid (show s.size = 0 → s = ⟨#[]⟩ from fun h => by
  cases s with
  | mk d => simp only [ByteArray.size, Array.size_eq_zero_iff] at h; rw [h])
 by_cases hse : s = ⟨#[]⟩
 ·have h0 : s.size = 0 := by rw [hse]; rfl
  have HF := Lib.hid (show b ++ txG true m s = L ++ [255] from by rw [HE.out, if_pos h0]; rfl)
  clear h0
  subst hse
  obtain ⟨a2, c2, i2, _, a3, c3, w3, hrun, i3, hp3, hb3⟩ := hp2.app HU.out (by omega)
  obtain ⟨f0, f1, f2⟩ := i2.cells3
  obtain ⟨y0, y1, y2⟩ := i3.cells3
  have ff := fun i => i3.frozen i
  have hg3 : g < w3.heap.size := i3.lt
  have HP3 := Lib.hid hp3; have HB3 := Lib.hid (HB2.out.trans hb3)
  clear i2 i3 hp2 hp3 hb3
  go_wp2_with (at_builtin; refine Lib.wpList_append_run _ rfl _ _ _ _ rfl _ _ rfl rfl _ _ hrun ?_)
  (first | go_end0 | refine bodyPost_ret (results_none rfl _ _ _) rfl ?_)
  exact ⟨rfl, by rw [HF.out]; exact HP3.out, HB3.out⟩
 ·have h0 : ¬ s.size = 0 := fun h => hse (HZ.out h)
  have hie : s.toList.isEmpty = false := by
   cases h : s.toList with
   | nil => exact absurd (bytes_nil h) hse
   | cons => rfl
  have HF := Lib.hid (show b ++ txG true m s = ((L ++ hdL m s.size) ++ byteL s) ++ [255] from by rw [HE.out, if_neg h0]; simp only [List.append_assoc])
  obtain ⟨a2, c2, i2, _, _⟩ := hp2.app HU.out (by omega)
  obtain ⟨f0, f1, f2⟩ := i2.cells3
  have hl9 := hdL_len m (s.size : Int)
  have hll2 : (L ++ hdL m s.size).length ≤ L.length + 9 := by rw [List.length_append]; omega
  have HU2 := Lib.hid (u8_app HU.out (hdL_u8 m s.size))
  clear hp2 i2
  go_wp2_with fail
  refine (impl_openNumber L m s.size g w2 HP2.out HM.out (by omega) (by omega)).mono ?_
  rintro ee w3 ⟨rfl, hp3, hb3⟩
  have HB3 := Lib.hid (HB2.out.trans hb3)
  have hg3 := hp3.lt
  generalize L ++ hdL m s.size = M at *
  clear hb3 f0 f1 f2 HP2
  obtain ⟨a3, c3, i3, happ, _⟩ := hp3.app HU2.out (by omega)
  obtain ⟨a4, c4, w4, hrun, i4, hp4, hb4⟩ := happ s (by omega)
  obtain ⟨f0, f1, f2⟩ := i3.cells3
  obtain ⟨y0, y1, y2⟩ := i4.cells3
  have ff := fun i => i4.frozen i
  have hg4 : g < w4.heap.size := i4.lt
  have hl5 : (M ++ byteL s).length ≤ M.length + s.size := by rw [List.length_append, byteL_len]; exact Nat.le_refl _
  have HP4 := Lib.hid hp4; have HB4 := Lib.hid (HB3.out.trans hb4)
  have HU4 := Lib.hid (u8_app HU2.out (byteL_u8 s))
  clear happ i3 i4 hp3 hp4 hb4
  go_upto_region 7 with (at_builtin; refine Lib.wpList_append_run _ rfl _ _ _ _ rfl _ _ rfl rfl _ _ hrun ?_)
  generalize w4.setCell ⟨g, 0, none⟩ (.slice a4 (M.length + s.size) c4) = w5 at *
  clear hrun f0 f1 f2 y0 y1 y2 ff
  generalize M ++ byteL s = K at *
  obtain ⟨a5, c5, i5, _, a6, c6, w6, hrun, i6, hp6, hb6⟩ := HP4.out.app HU4.out (by omega)
  obtain ⟨f0, f1, f2⟩ := i5.cells3
  obtain ⟨y0, y1, y2⟩ := i6.cells3
  have ff := fun i => i6.frozen i
  have hg5 := i5.lt
  have hg6 : g < w6.heap.size := i6.lt
  have HP6 := Lib.hid hp6; have HB6 := Lib.hid (HB4.out.trans hb6)
  clear i5 i6 hp6 hb6
  go_wp2_with (at_builtin; refine Lib.wpList_append_run _ rfl _ _ _ _ rfl _ _ rfl rfl _ _ hrun ?_)
  (first | go_end0 | refine bodyPost_ret (results_none rfl _ _ _) rfl ?_)
  exact ⟨rfl, by rw [HF.out]; exact HP6.out, HB6.out⟩
end Go.Proofs.YtggdenkmohnijaaGreatDoor
