/- Texts of this proof, merged: TigW. No condition beyond what each theorem states. -/
import Derived.BigRegion
import Derived.Lib.SliceRun
import Derived.Test.YtggdenkmohnijaaGreatDoorZO22
import Derived.Test.YtggdenkmohnijaaGreatDoorZO23
set_option linter.unusedSimpArgs false
set_option linter.unnecessarySimpa false
namespace Go.Proofs.YtggdenkmohnijaaGreatDoor
open Go.ChangeShapes Go.WideShapes Go.ChangeAt Go.RowKit Go.Joins
set_option linter.unusedVariables false
set_option maxRecDepth 100000
theorem Srcs.two {w : World} {b o : Nat} {x y : T} {Gx Gy : List Nat} (hx : TV w b o x Gx) (hy : TV w b (o + 5) y Gy) : Srcs TV 5 w (some ⟨b, o, none⟩) [x, y] (Gx ++ Gy) :=
 ⟨fun h => by simp at h, fun _ => ⟨b, o, rfl, Gx, Gy, rfl, hx, Gy, [], by simp, hy, rfl⟩⟩
theorem TV.at {w : World} {b o : Nat} {a : Option Addr} {cap : Nat} {t : T} {G : List Nat} (c0 : w.cell? ⟨b, o, none⟩ = some (.int .i64 t.k)) (c1 : w.cell? ⟨b, o + 1, none⟩ = some (.int .i64 t.n)) (c2 : w.cell? ⟨b, o + 2, none⟩ = some (.int .i64 t.x)) (c3 : w.cell? ⟨b, o + 3, none⟩ = some (.string t.s)) (c4 : w.cell? ⟨b, o + 4, none⟩ = some (.slice a t.l.length cap)) (hwf : Wf t) (h : TL w a cap t.l G) : TV w b o t G := by
 rw [← T.eta t, TV.iff]
 exact ⟨c0, c1, c2, c3, hwf.1, hwf.2.1, hwf.2.2.1, hwf.2.2.2, a, cap, c4, h⟩
theorem Srcs.pair {w : World} {b : Nat} {x y : T} {ax ay : Option Addr} {cx cy : Nat} {Gx Gy : List Nat} (h : Is w b 26 #[.int .i64 x.k, .int .i64 x.n, .int .i64 x.x, .string x.s, .slice ax x.l.length cx, .int .i64 y.k, .int .i64 y.n, .int .i64 y.x, .string y.s, .slice ay y.l.length cy]) (hwx : Wf x) (hwy : Wf y) (hx : TL w ax cx x.l Gx) (hy : TL w ay cy y.l Gy) : Srcs TV 5 w (some ⟨b, 0, none⟩) [x, y] (Gx ++ Gy) :=
 Srcs.two (TV.at (h.cell 0 rfl) (h.cell 1 rfl) (h.cell 2 rfl) (h.cell 3 rfl) (h.cell 4 rfl) hwx hx) (TV.at (h.cell 5 rfl) (h.cell 6 rfl) (h.cell 7 rfl) (h.cell 8 rfl) (h.cell 9 rfl) hwy hy)
theorem perm_ins {F1 F2 G R F' : List Nat} {F FR : List Nat} (h : (F ++ FR).Perm F') (h1 : F = F1 ++ F2) (h2 : FR = G ++ R) : (([] ++ F1 ++ G ++ F2) ++ R).Perm F' := by
 subst h1; subst h2
 refine List.Perm.trans ?_ h
 refine List.perm_iff_count.2 (fun z => ?_)
 simp only [List.count_append, List.count_nil]; omega
theorem rdT5 {w : World} {B : Nat} {a : Option Addr} {cap : Nat} {l : List T} (h : Rd TV 5 w B a cap l) : R w B a cap l := R.rd.2 h
abbrev Rt (w : World) (B : Nat) (a : Option Addr) (cap : Nat) (l : List T) : Prop := R w B a cap l
theorem TV.open {w : World} {b o : Nat} {t : T} {F : List Nat} (h : TV w b o t F) : ∃ a cap, w.cell? ⟨b, o, none⟩ = some (.int .i64 t.k) ∧ w.cell? ⟨b, o + 1, none⟩ = some (.int .i64 t.n) ∧ w.cell? ⟨b, o + 2, none⟩ = some (.int .i64 t.x) ∧ w.cell? ⟨b, o + 3, none⟩ = some (.string t.s) ∧ w.cell? ⟨b, o + 4, none⟩ = some (.slice a t.l.length cap) ∧ Wf t ∧ TL w a cap t.l F := by
 rw [← T.eta t, TV.iff] at h
 obtain ⟨h1, h2, h3, h4, h5, h6, h7, h8, a, cap, h9, h10⟩ := h
 exact ⟨a, cap, h1, h2, h3, h4, h9, ⟨h5, h6, h7, h8⟩, h10⟩
theorem AppL.ownTo {w w' : World} {rlo lo cap : Nat} {a : Option Addr} {l : List T} {F : List Nat} {e : TypeId} (h : AppL TV 5 e w rlo a cap l F) (hn : F.Nodup) (hlo : lo ≤ rlo) (hF : ∀ f ∈ F, lo ≤ f ∧ Unf w f) (hsz : w.heap.size ≤ w'.heap.size) (hold : ∀ f, (f ∈ F ∨ rlo ≤ f) → f < w.heap.size → w'.heap[f]? = w.heap[f]?) : Ow TV 5 w' lo w'.heap.size a cap l := by
 rcases h with ⟨rfl, rfl, rfl, rfl⟩ | ⟨g, cur, rfl, h1, h3, h4, h5, h6, h7, h8⟩
 ·exact Ow.nil _ _ _ _ _ (by simp [maxLen])
 ·have hg : g < w.heap.size := (Array.getElem?_eq_some_iff.1 h3).1
  by_cases hl : l = []
  ·subst hl; exact Ow.nil _ _ _ _ _ h5
  ·have hg' := hold g (Or.inr h1) hg
   refine ⟨g :: F, ⟨h4, h5, fun h => absurd h hl, fun _ => ⟨g, 0, F, rfl, rfl, h7.agree TV.elem.loc l (Cells.of_block hg' _ _) (fun f hf => hold f (Or.inl hf) (hF f hf).2.lt)⟩⟩, List.nodup_cons.2 ⟨fun hm => by have := h8 g hm; omega, hn⟩, ?_⟩
   intro f hf
   rcases List.mem_cons.1 hf with rfl | hf
   ·exact ⟨by omega, by omega, ⟨_, _, hg'.trans h3⟩⟩
   ·have := (hF f hf).2.lt
    exact ⟨(hF f hf).1, by omega, (hF f hf).2.agree (hold f (Or.inl hf) this)⟩
def srtT : T → T | .mk k n x s l => .mk k n x s (if k = 10 then srtP l (l.length / 2) else l)
set_option maxHeartbeats 16000000 in
theorem spec_SortTight (k n x0 : Int) (s : ByteArray) (l : List T) (a : Option Addr) (cap B : Nat) (w : World) (hr : R w B a cap l) (hwf : Wf (.mk k n x0 s l)) (hB : B ≤ w.heap.size) (hct : T.count (.mk k n x0 s l) ≤ 1073741824) (hsz : ∀ u ∈ l, T.sz u ≤ 1048576) (hl6 : l.length ≤ 1000) (hev : k = 10 → l.length % 2 = 0) :
  Calls Tryz.prog 114 #[.agg #[.int .i64 k, .int .i64 n, .int .i64 x0, .string s, .slice a l.length cap]] w fun e w' => ∃ a' cap', e = .returned (.agg (cV (srtT (.mk k n x0 s l)) a' cap')) ∧ Own w' w.heap.size w'.heap.size a' cap' (srtT (.mk k n x0 s l)).l ∧ Below w.heap.size w w' := by
 obtain ⟨P, hP⟩ : ∃ P, (if k = 10 then srtP l (l.length / 2) else l) = P := ⟨_, rfl⟩
 have HPL := Lib.hid (show P.length = l.length from by
  rw [← hP]; split
  ·rename_i h; rw [srtP_len]; have := hev h; omega
  ·rfl)
 have HP := Lib.hid hP
 rw [show srtT (.mk k n x0 s l) = .mk k n x0 s P from by rw [srtT, hP]]
 clear hP
 show Calls Tryz.prog 114 #[.agg #[.int .i64 k, .int .i64 n, .int .i64 x0, .string s, .slice a l.length cap]] w fun e w' => ∃ a' cap', e = .returned (.agg #[.int .i64 k, .int .i64 n, .int .i64 x0, .string s, .slice a' P.length cap']) ∧ Own w' w.heap.size w'.heap.size a' cap' P ∧ Below w.heap.size w w'
 have hW0 : ∃ W0, (w.alloc (.cells #[.int .i64 k, .int .i64 n, .int .i64 x0, .string s, .slice a l.length cap] 26)).alloc (.cells zV 26) = W0 := ⟨_, rfl⟩
 obtain ⟨W0, hW⟩ := hW0
 have HB0 := Lib.hid (show Is W0 w.heap.size 26 #[.int .i64 k, .int .i64 n, .int .i64 x0, .string s, .slice a l.length cap] from hW ▸ (Is.new _ _ _).alloc _)
 have HR0 := Lib.hid (show Is W0 (w.heap.size + 1) 26 zV from hW ▸ Is.new2 _ _ _ _)
 have H0 := Lib.hid (show Below w.heap.size w W0 from hW ▸ (below1 w _).trans ((below1 _ _).mono (by simp)))
 have hs0 : W0.heap.size = w.heap.size + 2 := by rw [← hW]; simp
 have HCP := Lib.hid (spec_l6Copy (.mk k n x0 s l) a cap B W0 (hr.below H0.out hB) hwf (by omega) hct)
 have HSZ := Lib.hid hsz; have HWF := Lib.hid hwf; have HEV := Lib.hid hev
 clear hr hct hsz hwf hev
 go_enter Tryz.func114, Tryz.ntmps114
 go_upto_region 1 with (fail)
 try rw [hW]
 obtain ⟨b0, o0, hh⟩ : ∃ b0 o0 : Nat, True := ⟨0, 0, trivial⟩
 clear hh b0 o0 hW
 obtain ⟨r0, r1, r2, r3, r4⟩ := HB0.out.cells5
 have lB := HB0.out.lt
 obtain ⟨R, hR⟩ : ∃ R, w.heap.size + 1 = R := ⟨_, rfl⟩
 rw [hR] at HR0
 try rw [hR]
 have hwR : w.heap.size < R := by omega
 have hRW : R < W0.heap.size := by omega
 clear hR
 go_wp2_with fail
 refine HCP.out.mono ?_
 rintro e w2 ⟨a2, c2, rfl, hown, hb2⟩
 rw [show cV (.mk k n x0 s l) a2 c2 = #[Value.int IntKind.i64 k, Value.int IntKind.i64 n, Value.int IntKind.i64 x0, Value.string s, Value.slice a2 l.length c2] from rfl]
 have hs2 := hb2.size
 have HX3 := Lib.hid (Is.new w2 #[.int .i64 k, .int .i64 n, .int .i64 x0, .string s, .slice a2 l.length c2] 26)
 have hb3 := below1 w2 (.cells #[.int .i64 k, .int .i64 n, .int .i64 x0, .string s, .slice a2 l.length c2] 26)
 have HB3 := Lib.hid ((HB0.out.below hb2 (by omega)).alloc (.cells #[.int .i64 k, .int .i64 n, .int .i64 x0, .string s, .slice a2 l.length c2] 26))
 have HR3 := Lib.hid ((HR0.out.below hb2 HR0.out.lt).alloc (.cells #[.int .i64 k, .int .i64 n, .int .i64 x0, .string s, .slice a2 l.length c2] 26))
 have HO3 := Lib.hid (show Own (w2.alloc (.cells #[.int .i64 k, .int .i64 n, .int .i64 x0, .string s, .slice a2 l.length c2] 26)) W0.heap.size w2.heap.size a2 c2 l from Own.agree hown (fun f _ h2 => hb3.block f h2))
 have H3 := Lib.hid (H0.out.trans ((hb2.mono (by omega)).trans (hb3.mono (by omega))))
 have lR2 : R < w2.heap.size := by have := (HR0.out.below hb2 HR0.out.lt).lt; exact this
 clear hown hb2 hb3 HB0 HR0 H0 HCP r0 r1 r2 r3 r4 lB
 go_upto_region 2 with (fail)
 obtain ⟨X, hX⟩ : ∃ X, w2.heap.size = X := ⟨_, rfl⟩
 rw [hX] at HX3 HO3 lR2
 try rw [hX]
 generalize w2.alloc (.cells #[.int .i64 k, .int .i64 n, .int .i64 x0, .string s, .slice a2 l.length c2] 26) = w3 at *
 have hwX : w.heap.size < X := by omega
 have hXX := HX3.out.lt
 obtain ⟨r0, r1, r2, r3, r4⟩ := HB3.out.cells5
 have lB := HB3.out.lt
 by_cases k10 : k = 10
 case neg =>
  have HPE := Lib.hid (show P = l from by rw [← HP.out, if_neg k10])
  have HPD := Lib.hid (show pairedB (.mk k n x0 s l) = false from by unfold pairedB; simp [T.k, k10])
  clear k10
  go_wp2_with fail
  refine (spec_l7Map (.mk k n x0 s l) a cap w3 (by simp only [T.l]; omega)).mono ?_
  rintro e w4 ⟨rfl, hb4⟩
  rw [HPD.out]
  have HX4 := Lib.hid (HX3.out.below hb4 hXX)
  have HR4 := Lib.hid (HR3.out.below hb4 (by omega))
  have HO4 := Lib.hid (HO3.out.agree (w' := w4) (fun f _ h2 => hb4.block f (by omega)))
  have H4 := Lib.hid (H3.out.trans (hb4.mono (by have := H3.out.size; omega)))
  clear r0 r1 r2 r3 r4 hb4
  obtain ⟨x0', x1, x2, x3, x4⟩ := HX4.out.cells5
  obtain ⟨r0, r1, r2, r3, r4⟩ := HR4.out.cells5
  have fr := fun i => HR4.out.frozen i
  have lX := HX4.out.lt; have lR := HR4.out.lt
  go_wp2_with fail
  obtain ⟨e0, e1, e2, e3, e4, hbel, hold, hsz⟩ := out5 HR4.out.blk (.int .i64 k) (.int .i64 n) (.int .i64 x0) (.string s) (.slice a2 l.length c2) R (Nat.le_refl _)
  refine bodyPost_ret (v := .agg #[.int .i64 k, .int .i64 n, .int .i64 x0, .string s, .slice a2 l.length c2]) (by simp [results, Tryz.results114, go_sem, e0, e1, e2, e3, e4]) rfl ⟨a2, c2, by rw [HPE.out], ?_, H4.out.trans (hbel.mono (by omega))⟩
  rw [HPE.out]
  obtain ⟨F, h1, h2, h3⟩ := HO4.out
  exact ⟨F, h1.agree (fun f hf => hold f (by have := h3 f hf; omega)), h2, fun f hf => ⟨by have := h3 f hf; omega, by have := h3 f hf; rw [hsz]; omega, (h3 f hf).2.2.agree (hold f (by have := h3 f hf; omega))⟩⟩
 subst k10
 have hev2 : l.length % 2 = 0 := HEV.out rfl
 have HPE := Lib.hid (show srtP l (l.length / 2) = P from by rw [← HP.out, if_pos rfl])
 have HPD := Lib.hid (show pairedB (.mk 10 n x0 s l) = true from by unfold pairedB; simp [T.k, T.l, hev2])
 go_wp2_with fail
 refine (spec_l7Map (.mk 10 n x0 s l) a cap w3 (by simp only [T.l]; omega)).mono ?_
 rintro e w4 ⟨rfl, hb4⟩
 rw [HPD.out]
 have HX4 := Lib.hid (HX3.out.below hb4 hXX)
 have HR4 := Lib.hid (HR3.out.below hb4 (by omega))
 have HO4 := Lib.hid (HO3.out.agree (w' := w4) (fun f _ h2 => hb4.block f (by omega)))
 have H4 := Lib.hid (H3.out.trans (hb4.mono (by have := H3.out.size; omega)))
 clear r0 r1 r2 r3 r4 hb4 HX3 HR3 HO3 H3 HB3 hXX lB HP
 obtain ⟨b, o, F', hbo, hrow, hnd, hfb, hbX⟩ : ∃ (b o : Nat) (F' : List Nat), (l ≠ [] → a2 = some ⟨b, o, none⟩) ∧ Hid (Row TV 5 w4 b o l F') ∧ Hid F'.Nodup ∧ Hid (∀ f ∈ F', W0.heap.size ≤ f ∧ f < X ∧ Unf w4 f) ∧ b < X := by
  obtain ⟨Fall, ⟨h1, h2, h3, h4⟩, h5, h6⟩ := Own.ow.1 HO4.out
  by_cases hl : l = []
  ·subst hl; exact ⟨0, 0, [], fun h => absurd rfl h, Lib.hid rfl, Lib.hid (by simp), Lib.hid (by simp), by omega⟩
  ·obtain ⟨b, o, F', hae, rfl, hrow⟩ := h4 hl
   exact ⟨b, o, F', fun _ => hae, Lib.hid hrow, Lib.hid (List.nodup_cons.1 h5).2, Lib.hid (fun f hf => h6 f (by simp [hf])), (h6 b (by simp)).2.1⟩
 obtain ⟨hlc2, hcap2⟩ : l.length ≤ c2 ∧ c2 ≤ 9223372036854775807 := by
  obtain ⟨Fall, ⟨h1, h2, h3, h4⟩, _⟩ := Own.ow.1 HO4.out
  unfold maxLen at h2; exact ⟨h1, h2⟩
 have hX4 : X < w4.heap.size := HX4.out.lt
 go_wp2_with fail
 go_loopw [4, 5, 6] (fun lv iv _ wr => ∃ (j i2 : Nat) (L : List T) (g cr rlo : Nat) (F FR : List Nat), lv = .slice (some ⟨g, 0, none⟩) L.length cr ∧ iv = .int .i64 i2 ∧ Hid (i2 = 2 * j) ∧ i2 ≤ l.length ∧ Hid (L = srtP l j) ∧ L.length = i2 ∧ Hid (AppL TV 5 26 wr rlo (some ⟨g, 0, none⟩) cr L F) ∧ rlo ≤ wr.heap.size ∧ X < rlo ∧ Hid (Row TV 5 wr b (o + i2 * 5) (l.drop i2) FR) ∧ Hid ((F ++ FR).Perm F') ∧ Hid (Below w4.heap.size w4 wr)) (fun _ iv _ _ => l.length - (intOf iv).toNat)
 case atStart => exact ⟨0, 0, [], w4.heap.size, 0, w4.heap.size, [], F', rfl, rfl, Lib.hid rfl, Nat.zero_le _, Lib.hid rfl, rfl, Lib.hid (AppL.empty w4 w4.heap.size (Nat.le_refl _)), by simp, hX4, Lib.hid (by rw [List.drop_zero, Nat.zero_mul, Nat.add_zero]; exact hrow.out.agree TV.elem.loc l (Cells.of_block ((below1 w4 _).block b (by omega)) _ _) (fun f hf => (below1 w4 _).block f (by have := hfb.out f hf; omega))), Lib.hid (by simp), Lib.hid (below1 _ _)⟩
 case round =>
  obtain ⟨j, i2, L, g, cr, rlo, F, FR, rfl, rfl, hi2, hil, hL, hLl, HA, hrl, hXr, HRW, HPM, HBR⟩ := hrel
  have hbs := HBR.out.size
  have HX5 := Lib.hid (HX4.out.below HBR.out hX4)
  have HR5 := Lib.hid (HR4.out.below HBR.out (by omega))
  obtain ⟨x0', x1, x2, x3, x4⟩ := HX5.out.cells5
  have lX := HX5.out.lt; have lR := HR5.out.lt
  by_cases hlt : i2 < l.length
  ·have hltz : (i2 : Int) < (l.length : Int) := by omega
   have hi21 : i2 + 1 < l.length := by have := hi2.out; omega
   have hne : l ≠ [] := by rintro rfl; simp at hlt
   obtain rfl := hbo hne
   clear hbo hne
   obtain ⟨x, hx⟩ : ∃ x, l[i2] = x := ⟨_, rfl⟩
   obtain ⟨y, hy⟩ : ∃ y, l[i2 + 1] = y := ⟨_, rfl⟩
   have hxl : x ∈ l := hx ▸ List.getElem_mem hlt
   have hyl : y ∈ l := hy ▸ List.getElem_mem hi21
   have hrw2 := HRW.out
   rw [List.drop_eq_getElem_cons hlt, List.drop_eq_getElem_cons hi21, hx, hy] at hrw2
   obtain ⟨Gx, FR1, hFR1, hvx, Gy, FR2, hFR2, hvy, hr2⟩ := hrw2
   obtain ⟨ax, cx, d0, d1, d2, d3, d4, hwx, hgx⟩ := hvx.open
   obtain ⟨ay, cy, f0, f1, f2, f3, f4, hwy, hgy⟩ := hvy.open
   have HGD := Lib.hid (show L.getD 0 zT = L.getD 0 zT ∧ l.getD (2 * j) zT = x ∧ l.getD (2 * j + 1) zT = y from ⟨rfl, by rw [← hi2.out, List.getD_eq_getElem?_getD, List.getElem?_eq_getElem hlt]; exact hx, by rw [← hi2.out, List.getD_eq_getElem?_getD, List.getElem?_eq_getElem hi21]; exact hy⟩)
   have HFRE := Lib.hid (show FR = (Gx ++ Gy) ++ FR2 from by rw [hFR1, hFR2, List.append_assoc])
   have hoff : o + i2 * 5 + 5 + 5 = o + (i2 + 2) * 5 := by omega
   have HR2 := Lib.hid (show Row TV 5 wr b (o + (i2 + 2) * 5) (l.drop (i2 + 2)) FR2 from hoff ▸ hr2)
   have HWX := Lib.hid hwx; have HWY := Lib.hid hwy; have HGX := Lib.hid hgx; have HGY := Lib.hid hgy
   have HSX := Lib.hid (HSZ.out x hxl); have HSY := Lib.hid (HSZ.out y hyl)
   have HFB := Lib.hid (show (∀ f ∈ F, W0.heap.size ≤ f ∧ f < X ∧ Unf wr f) ∧ (∀ f ∈ Gx ++ Gy, W0.heap.size ≤ f ∧ f < X ∧ Unf wr f) from by
    have key : ∀ f ∈ F ++ FR, W0.heap.size ≤ f ∧ f < X ∧ Unf wr f := fun f hf => by
     have h2 := hfb.out f ((HPM.out.mem_iff (a := f)).1 hf)
     exact ⟨h2.1, h2.2.1, h2.2.2.agree (HBR.out.block f (by omega))⟩
    exact ⟨fun f hf => key f (by simp [hf]), fun f hf => key f (by rw [HFRE.out]; simp only [List.mem_append] at hf ⊢; exact Or.inr (Or.inl hf))⟩)
   have hbr : b < wr.heap.size := by omega
   obtain ⟨hc1, hc2⟩ := HA.out.cap
   have hLj := hi2.out
   have HLJ := Lib.hid hLj; clear hLj
   clear hFR1 hFR2 hvx hvy hr2 hwx hwy hgx hgy hoff hx hy hxl hyl
   go_wp2_with fail
   go_loopw [6] (fun kv wi => ∃ (q kq : Nat), kv = .int .i64 kq ∧ Hid (kq = 2 * q) ∧ q ≤ j ∧ kq ≤ L.length ∧ Hid (posP L x j = posP L x q) ∧ Hid (Below wr.heap.size wr wi)) (fun kv _ => (intOf kv).toNat)
   case atStart => exact ⟨j, i2, by first | rfl | rw [hLl], HLJ, Nat.le_refl _, by omega, Lib.hid rfl, Lib.hid (Below.refl _ _)⟩
   case round =>
    rename World => wi
    obtain ⟨q, kq, rfl, hkq, hqj, hkL, hpos, HBi⟩ := hrel
    have hbi := HBi.out.size
    have HXi := Lib.hid (HX5.out.below HBi.out lX)
    have HRi := Lib.hid (HR5.out.below HBi.out lR)
    have cl := fun (z : Nat) (v : Value) (h : wr.cell? ⟨b, z, none⟩ = some v) => (HBi.out.cell (p := ⟨b, z, none⟩) hbr).trans h
    have e0 := cl _ _ d0; have e1 := cl _ _ d1; have e2 := cl _ _ d2; have e3 := cl _ _ d3; have e4 := cl _ _ d4
    have HGXi := Lib.hid (HGX.out.agree (fun f hf => HBi.out.block f (by have := HFB.out.2 f (by simp [hf]); omega)))
    have HQX := Lib.hid (show Rt wi wr.heap.size ax cx x.l from ⟨Gx, HGXi.out, fun f hf => by have := HFB.out.2 f (by simp [hf]); omega⟩)
    obtain ⟨x0'', y1, y2, y3, y4⟩ := HXi.out.cells5
    have lXi := HXi.out.lt; have lRi := HRi.out.lt
    have hbwi : b < wi.heap.size := by omega
    clear cl
    obtain ⟨bb, hbb⟩ : ∃ bb, (decide (0 < q) && lexB (packT x) (packT (L.getD (2 * (q - 1)) zT))) = bb := ⟨_, rfl⟩
    have HBB := Lib.hid hbb; clear hbb
    have HLl := Lib.hid hLl
    go_upto_region 9 with (fail)
    go_cut [37] (fun cv wx => cv = .bool bb ∧ Hid (Below wi.heap.size wi wx))
    case first =>
     by_cases q0 : q = 0
     ·subst q0
      have hk0 : kq = 0 := hkq.out
      subst hk0
      refine tkW (wi.heap.size) wi (fun hHeld => ?_)
      refine tkS 0 23 rfl ?_
      refine tkS 1 24 rfl ?_
      refine tkS 2 25 rfl ?_
      refine tkF 3 26 rfl ?_
      refine tkF 4 27 rfl ?_
      refine tkF 5 28 rfl ?_
      refine tkF 6 29 rfl ?_
      refine tkF 7 30 rfl ?_
      refine tkF 8 31 rfl ?_
      refine tkF 9 32 rfl ?_
      refine tkF 10 33 rfl ?_
      refine tkF 11 34 rfl ?_
      refine tkF 12 35 rfl ?_
      refine tkF 13 36 rfl ?_
      refine tkS 14 37 rfl ?_
      refine tkE ?_
      have K := Lib.hid (‹_ ∧ Below (wi.heap.size) wi _›).2
      go_wp2_with fail
      go_meet
      case rel => exact ⟨by rw [← HBB.out]; rfl, K⟩
     ·obtain ⟨qp, hqp⟩ : ∃ qp, q = qp + 1 := ⟨q - 1, by omega⟩
      obtain ⟨kp, hkp⟩ : ∃ kp, kq = kp + 2 := ⟨kq - 2, by have := hkq.out; omega⟩
      have hkp2 : kp = 2 * qp := by have := hkq.out; omega
      have hkl : kp < L.length := by omega
      obtain ⟨g', o', a3, c3, hg', hgl, u0, u1, u2, u3, u4, hwu, hqu⟩ := (rdT5 ((HA.out.rd hrl).below TV.elem.loc HBi.out (Nat.le_refl _))).get kp hkl
      injection hg' with hg'
      injection hg' with hg1 hg2
      subst hg1 hg2
      rw [Nat.zero_add] at u0 u1 u2 u3 u4
      have HWU := Lib.hid hwu; have HQU := Lib.hid hqu
      have HRES := Lib.hid (show lexB (packT x) (packT L[kp]) = bb from by
       have h := HBB.out
       rw [hqp, Nat.add_sub_cancel, ← hkp2, List.getD_eq_getElem?_getD, List.getElem?_eq_getElem hkl, Option.getD_some] at h
       simpa using h)
      have hSL := Lib.hid (show ∀ u ∈ L, T.sz u ≤ 1048576 from fun u hu => HSZ.out u (srtP_mem l j (by have := hi2.out; omega) u (hL.out ▸ hu)))
      have HSU := Lib.hid (hSL.out _ (List.getElem_mem hkl))
      have hgt : decide (0 < kq) = true := decide_eq_true (by omega)
      have hgt2 : (0 : Int) < (kq : Int) := by omega
      have hgw : g < wi.heap.size := by omega
      have hwr2 : IntKind.i64.wrap ((kq : Int) - 2) = (kp : Int) := by rw [show (kq : Int) - 2 = (kp : Int) from by omega, Go.IntWalk.i64_left]; exact Go.IntWalk.wrap64_in _ ⟨by omega, by omega⟩
      generalize L[kp] = z at *
      have hkl2 : kp < i2 := by omega
      have hkl3 : (kp : Int) < (i2 : Int) := by omega
      have hkp0 : (0 : Int) ≤ (kp : Int) := by omega
      clear hqp hkp hkp2 hwu hqu hLl
      refine tkW (wi.heap.size) wi (fun hHeld => ?_)
      refine tkS 0 23 rfl ?_ (by intro w hSw; (try dsimp only at hSw); go_simp; (try simp only [hgt]); try with_reducible rfl)
      refine tkS 1 24 rfl ?_ (by intro w hSw; (try dsimp only at hSw); go_simp; (try simp only [hgt]); try with_reducible rfl)
      refine tkS 2 25 rfl ?_ (by intro w hSw; (try dsimp only at hSw); go_simp; (try simp only [hgt]); try with_reducible rfl)
      refine wpAnyH_take (i := 3) (oi := ⟨some 26, _, _, _, _, _⟩) (v := ?_) rfl (by kernel_rfl) (by kernel_rfl) (by kernel_rfl) (fun _ _ _ h => h) (Or.inl ⟨by first | rfl | (simp only [hgt]; rfl), ?_⟩) (by assumption) ?_
      rotate_left 1
      ·(intro w hSw; (try dsimp only at hSw); go_simp; (try simp only [hgt]); try (with_reducible rfl))
      try simp only [Act.put, tkL, tkZ, tkN]
      refine wpAnyH_take (i := 4) (oi := ⟨some 27, _, _, _, _, _⟩) (v := ?_) rfl (by kernel_rfl) (by kernel_rfl) (by kernel_rfl) (fun _ _ _ h => h) (Or.inl ⟨by first | rfl | (simp only [hgt]; rfl), ?_⟩) (by assumption) ?_
      rotate_left 1
      ·(intro w hSw; (try dsimp only at hSw); go_simp; (try simp only [hgt]); try (with_reducible rfl))
      try simp only [Act.put, tkL, tkZ, tkN]
      refine wpAnyH_take (i := 5) (oi := ⟨some 28, _, _, _, _, _⟩) (v := ?_) rfl (by kernel_rfl) (by kernel_rfl) (by kernel_rfl) (fun _ _ _ h => h) (Or.inl ⟨by first | rfl | (simp only [hgt]; rfl), ?_⟩) (by assumption) ?_
      rotate_left 1
      ·(intro w hSw; (try dsimp only at hSw); go_simp; (try simp only [hgt]); try (with_reducible rfl))
      try simp only [Act.put, tkL, tkZ, tkN]
      refine wpAnyH_take (i := 6) (oi := ⟨some 29, _, _, _, _, _⟩) (v := ?_) rfl (by kernel_rfl) (by kernel_rfl) (by kernel_rfl) (fun _ _ _ h => h) (Or.inl ⟨by first | rfl | (simp only [hgt]; rfl), ?_⟩) (by assumption) ?_
      rotate_left 1
      ·(intro w hSw; (try dsimp only at hSw); go_simp; (try simp only [hgt]); try (with_reducible rfl))
      try simp only [Act.put, tkL, tkZ, tkN]
      refine wpAnyH_take (i := 7) (oi := ⟨some 30, _, _, _, _, _⟩) (v := ?_) rfl (by kernel_rfl) (by kernel_rfl) (by kernel_rfl) (fun _ _ _ h => h) (Or.inl ⟨by first | rfl | (simp only [hgt]; rfl), ?_⟩) (by assumption) ?_
      rotate_left 1
      ·(intro w hSw; (try dsimp only at hSw); go_simp; (try simp only [hgt]); try (with_reducible rfl))
      try simp only [Act.put, tkL, tkZ, tkN]
      refine wpAnyH_take (i := 8) (oi := ⟨some 31, _, _, _, _, _⟩) (v := ?_) rfl (by kernel_rfl) (by kernel_rfl) (by kernel_rfl) (fun _ _ _ h => h) (Or.inl ⟨by first | rfl | (simp only [hgt]; rfl), ?_⟩) (by assumption) ?_
      rotate_left 1
      ·(intro w hSw; (try dsimp only at hSw); go_simp; (try simp only [hgt]); try (with_reducible rfl))
      try simp only [Act.put, tkL, tkZ, tkN]
      refine wpAnyH_take (i := 9) (oi := ⟨some 32, _, _, _, _, _⟩) (v := ?_) rfl (by kernel_rfl) (by kernel_rfl) (by kernel_rfl) (fun _ _ _ h => h) (Or.inl ⟨by first | rfl | (simp only [hgt]; rfl), ?_⟩) (by assumption) ?_
      rotate_left 1
      ·(intro w hSw; (try dsimp only at hSw); go_simp; (try simp only [hgt]); try (with_reducible rfl))
      try simp only [Act.put, tkL, tkZ, tkN]
      refine wpAnyH_take (i := 10) (oi := ⟨some 33, _, _, _, _, _⟩) (v := ?_) rfl (by kernel_rfl) (by kernel_rfl) (by kernel_rfl) (fun _ _ _ h => h) (Or.inl ⟨by first | rfl | (simp only [hgt]; rfl), ?_⟩) (by assumption) ?_
      rotate_left 1
      ·(intro w hSw; (try dsimp only at hSw); go_simp; (try simp only [hgt]); try (with_reducible rfl))
      try simp only [Act.put, tkL, tkZ, tkN]
      refine wpAnyH_take (i := 11) (oi := ⟨some 34, _, _, _, _, _⟩) (v := ?_) rfl (by kernel_rfl) (by kernel_rfl) (by kernel_rfl) (fun _ _ _ h => h) (Or.inl ⟨by first | rfl | (simp only [hgt]; rfl), ?_⟩) (by assumption) ?_
      rotate_left 1
      ·(intro w hSw; (try dsimp only at hSw); go_simp; (try simp only [hgt]); try (with_reducible rfl))
      try simp only [Act.put, tkL, tkZ, tkN]
      refine wpAnyH_take (i := 12) (oi := ⟨some 35, _, _, _, _, _⟩) (v := ?_) rfl (by kernel_rfl) (by kernel_rfl) (by kernel_rfl) (fun _ _ _ h => h) (Or.inl ⟨by first | rfl | (simp only [hgt]; rfl), ?_⟩) (by assumption) ?_
      rotate_left 1
      ·(intro w hSw; (try dsimp only at hSw); go_simp; (try simp only [hgt]); try (with_reducible rfl))
      try simp only [Act.put, tkL, tkZ, tkN]
      refine tkA 13 36 rfl (fun K hK => ?_)
      go_simp; (first | (go_at_call 124; refine (spec_LessTight x z ax a3 cx c3 wr.heap.size _ (HQX.out.below (‹_ ∧ Below (wi.heap.size) wi _›).2 hbi) (HQU.out.below (‹_ ∧ Below (wi.heap.size) wi _›).2 hbi) HWX.out HWU.out HSX.out HSU.out (Nat.le_trans hbi (‹_ ∧ Below (wi.heap.size) wi _›).2.size)).mono ?_; rintro ee w5 ⟨rfl, hb5⟩; rw [HRES.out])); go_wp2_with fail; refine tkK hK (fun hHeld => ?_); clear hK K
      refine tkS 14 37 rfl ?_ (by intro w hSw; (try dsimp only at hSw); go_simp; (try simp only [hgt]); try with_reducible rfl)
      refine tkE ?_
      all_goals
       have K := Lib.hid (‹_ ∧ Below (wi.heap.size) wi _›).2
       go_wp2_with fail
       go_meet
       case rel => exact ⟨rfl, K⟩
    case rest =>
     obtain ⟨rfl, HX9⟩ := hcut
     rename World => wx
     cases bb with
     | true =>
      have hq0 : 0 < q := by have := HBB.out; simp at this; omega
      obtain ⟨qp, rfl⟩ : ∃ qp, q = qp + 1 := ⟨q - 1, by omega⟩
      obtain ⟨kp, hkp⟩ : ∃ kp, kq = kp + 2 := ⟨kq - 2, by have := hkq.out; omega⟩
      have e9 : (kq : Int) - 2 = (kp : Int) := by omega
      have HPN := Lib.hid (show posP L x j = posP L x qp from by
       rw [hpos.out, posP, if_pos (by have := HBB.out; simp only [Nat.add_sub_cancel, Bool.and_eq_true] at this; exact this.2)])
      have HB9 := Lib.hid (HBi.out.trans (HX9.out.mono hbi))
      have HKP := Lib.hid (show kp = 2 * qp from by have := hkq.out; omega)
      go_wp2_with fail
      refine ⟨⟨qp, kp, by go_num, HKP, by omega, by omega, HPN, HB9⟩, by simp [intOf]; omega⟩
     | false =>
      have HPN := Lib.hid (show posP L x j = q from by
       rw [hpos.out]
       cases q with
       | zero => rfl
       | succ q =>
        rw [posP, if_neg]
        have := HBB.out
        simp only [Nat.add_sub_cancel, decide_eq_true (Nat.succ_pos q), Bool.true_and] at this
        rw [this]; simp)
      have HB9 := Lib.hid (HBi.out.trans (HX9.out.mono hbi))
      have hbx := HB9.out.size
      have HX9c := Lib.hid (HX5.out.below HB9.out lX)
      have HR9c := Lib.hid (HR5.out.below HB9.out lR)
      obtain ⟨I1, hI1⟩ : ∃ I1, i2 + 1 = I1 := ⟨_, rfl⟩
      have hI1z : (i2 : Int) + 1 = (I1 : Int) := by omega
      have hI1l : I1 < l.length := by omega
      have hI1lz : (I1 : Int) < (l.length : Int) := by omega
      have hI1w : IntKind.i64.wrap (I1 : Int) = (I1 : Int) := by unfold IntKind.wrap; simp [IntKind.signed, IntKind.bits]; omega
      have hoff : o + i2 * 5 + 5 = o + I1 * 5 := by omega
      have cl := fun (z : Nat) (v : Value) (h : wr.cell? ⟨b, z, none⟩ = some v) => (HB9.out.cell (p := ⟨b, z, none⟩) hbr).trans h
      rw [hoff] at f0 f1 f2 f3 f4
      have g0 := cl _ _ d0; have g1 := cl _ _ d1; have g2 := cl _ _ d2; have g3 := cl _ _ d3; have g4 := cl _ _ d4
      have k0 := cl _ _ f0; have k1 := cl _ _ f1; have k2 := cl _ _ f2; have k3 := cl _ _ f3; have k4 := cl _ _ f4
      have HKQ := Lib.hid hkq.out
      clear e0 e1 e2 e3 e4 d0 d1 d2 d3 d4 f0 f1 f2 f3 f4 cl HXi HRi HQX HGXi x0'' y1 y2 y3 y4 lXi lRi hbwi hoff HBB hpos hI1
      obtain ⟨x0'', y1, y2, y3, y4⟩ := HX9c.out.cells5
      have lXx := HX9c.out.lt
      have hbwx : b < wx.heap.size := by omega
      obtain ⟨F1, F2, hFF, hga, HSa, HSb⟩ : ∃ F1 F2, F = F1 ++ F2 ∧ g < wr.heap.size ∧ Hid (Srcs TV 5 wx (some ⟨g, 0, none⟩) (L.take kq) F1) ∧ Hid (Srcs TV 5 wx (some ⟨g, kq * 5, none⟩) (L.drop kq) F2) := by
       rcases HA.out with ⟨h, _⟩ | ⟨g', cur, hg', q1, q3, q4, q5, q6, q7, q8⟩
       ·cases h
       injection hg' with hg'
       injection hg' with hg'
       subst hg'
       have hgl := (Array.getElem?_eq_some_iff.1 q3).1
       have q7' : Row TV 5 wr g 0 (L.take kq ++ L.drop kq) F := by rw [List.take_append_drop]; exact q7
       obtain ⟨F1, F2, hFF, r1, r2⟩ := q7'.split
       have hlt2 : ∀ f ∈ F, f < wr.heap.size := fun f hf => by have := q8 f hf; omega
       refine ⟨F1, F2, hFF, hgl, Lib.hid ⟨fun h => ?_, fun _ => ⟨g, 0, rfl, r1.agree TV.elem.loc _ (Cells.of_block (HB9.out.block g hgl) _ _) (fun f hf => HB9.out.block f (hlt2 f (by rw [hFF]; simp [hf])))⟩⟩, Lib.hid ⟨fun h => ?_, fun _ => ⟨g, kq * 5, rfl, ?_⟩⟩⟩
       ·rw [h] at r1; exact r1
       ·rw [h] at r2; exact r2
       ·have := r2.agree TV.elem.loc _ (Cells.of_block (HB9.out.block g hgl) _ _) (fun f hf => HB9.out.block f (hlt2 f (by rw [hFF]; simp [hf])))
        rwa [Nat.zero_add, List.length_take, Nat.min_eq_left hkL] at this
      have HIL := Lib.hid hLl
      have hki : kq ≤ i2 := by omega
      have hic : i2 ≤ cr := by omega
      have htk : (L.take kq).length = kq := by rw [List.length_take]; omega
      have hdk : (L.drop kq).length = i2 - kq := by rw [List.length_drop, hLl]
      have hLn : L.length ≤ 1000 := by omega
      have HFF := Lib.hid hFF; have HHC := Lib.hid hc1
      clear hFF hLl hc1
      go_upto_region 11 with (fail)
      obtain ⟨W8, hW8⟩ : ∃ W8, wx = W8 := ⟨_, rfl⟩
      subst hW8
      rename World => W8
      have hg8 : g < W8.heap.size := by omega
      have HF1 := Lib.hid (show ∀ f ∈ F1, f < W8.heap.size from fun f hf => by have := (HFB.out.1 f (by rw [HFF.out]; simp [hf])).2.1; omega)
      have HF2 := Lib.hid (show ∀ f ∈ F2, f < W8.heap.size from fun f hf => by have := (HFB.out.1 f (by rw [HFF.out]; simp [hf])).2.1; omega)
      have HGlt := Lib.hid (show ∀ f ∈ Gx ++ Gy, f < W8.heap.size from fun f hf => by have := (HFB.out.2 f hf).2.1; omega)
      have HGX8 := Lib.hid (HGX.out.agree (fun f hf => HB9.out.block f (by have := HFB.out.2 f (by simp [hf]); omega)))
      have HGY8 := Lib.hid (HGY.out.agree (fun f hf => HB9.out.block f (by have := HFB.out.2 f (by simp [hf]); omega)))
      have hkn : kq ≤ cr := by omega
      by_cases hck : cr = kq
      ·have hdn : L.drop kq = [] := List.drop_of_length_le (by have := HIL.out; omega)
       have hki2 : i2 = kq := by omega
       have HSb0 : Hid (Srcs TV 5 W8 (some ⟨g, 0, none⟩) (L.drop kq) F2) := Lib.hid ⟨fun _ => HSb.out.1 hdn, fun h => absurd hdn h⟩
       clear hkL
       subst hki2
       have hck' := hck.symm
       clear hck
       subst hck'
       refine tkW (W8.heap.size) W8 (fun hHeld => ?_)
       refine tkS 1 41 rfl ?_
       refine tkS 2 42 rfl ?_
       refine tkS 3 43 rfl ?_
       refine tkS 5 45 rfl ?_
       refine tkS 6 46 rfl ?_
       refine tkS 7 47 rfl ?_
       refine tkS 8 48 rfl ?_
       refine tkS 9 49 rfl ?_
       refine tkS 10 50 rfl ?_
       refine tkS 11 51 rfl ?_
       refine tkS 12 52 rfl ?_
       refine tkS 13 53 rfl ?_
       refine tkS 14 54 rfl ?_
       refine tkS 15 55 rfl ?_
       refine tkS 18 58 rfl ?_
       refine tkS 19 59 rfl ?_
       refine tkS 20 60 rfl ?_
       refine tkR [0, 16] ?_
       refine tkC 40 rfl (fun K hK => ?_) ?_
       focus (go_simp; go_wp2_with fail; refine tkK hK (fun hHeld => ?_) (hS := (kpA (by assumption))); clear hK K)
       refine tkR [4, 16] ?_
       refine tkC 44 rfl (fun K hK => ?_) ?_
       focus ((((with_reducible refine at_world ((W8.alloc (.cells #[] 26)).drew) ?_); have hcc := (‹_ ∧ Below (W8.heap.size) W8 _›).2; obtain ⟨ar4, cr4, v4, hrun4, happ4, hb4, hout4, hrow4, hsz4⟩ := run_appL (P := Tryz.prog) ((W8.alloc (.cells #[] 26)).drew) TV.elem 24 24 (.agg zV) 64 Tryz.underlying24 info_Val rfl W8.heap.size (some ⟨W8.heap.size, 0, none⟩) 0 [] [] (AppL.empty W8.drew W8.heap.size (by simp)) (by simp; try omega) (by simp) (some ⟨g, 0, none⟩) i2 (L.take i2) F1 (HSa.out.agree TV.elem (fun b o hb _ => by injection hb with hb; injection hb with hb; subst hb; exact hcc.block _ hg8) (fun f hf => hcc.block f (HF1.out f hf))) (fun f hf => HF1.out f hf) (by simp [maxLen]; omega) (by simp; omega); rw [htk] at hrun4; refine step_append_run _ rfl _ _ _ _ rfl _ _ rfl rfl _ _ hrun4 ?_; have HA4 := Lib.hid happ4)); refine tkK hK (fun hHeld => ?_); clear hK K)
       refine tkA 16 56 rfl (fun K hK => ?_)
       focus (go_simp; go_wp2_with fail; refine tkK hK (fun hHeld => ?_) (hS := (kpA (by assumption))); clear hK K)
       refine tkA 17 57 rfl (fun K hK => ?_)
       focus ((((with_reducible refine at_world (v4.alloc (.cells #[.int .i64 x.k, .int .i64 x.n, .int .i64 x.x, .string x.s, .slice ax x.l.length cx, .int .i64 y.k, .int .i64 y.n, .int .i64 y.x, .string y.s, .slice ay y.l.length cy] 26)) ?_); have hcc := (‹_ ∧ Below (W8.heap.size) W8 _›).2; have hIX : Is (v4.alloc (.cells #[.int .i64 x.k, .int .i64 x.n, .int .i64 x.x, .string x.s, .slice ax x.l.length cx, .int .i64 y.k, .int .i64 y.n, .int .i64 y.x, .string y.s, .slice ay y.l.length cy] 26)) (v4.heap.size) 26 #[.int .i64 x.k, .int .i64 x.n, .int .i64 x.x, .string x.s, .slice ax x.l.length cx, .int .i64 y.k, .int .i64 y.n, .int .i64 y.x, .string y.s, .slice ay y.l.length cy] := Is.new v4 _ _; obtain ⟨ar5, cr5, v5, hrun5, happ5, hb5, hout5, hrow5, hsz5⟩ := run_appL (P := Tryz.prog) (v4.alloc (.cells #[.int .i64 x.k, .int .i64 x.n, .int .i64 x.x, .string x.s, .slice ax x.l.length cx, .int .i64 y.k, .int .i64 y.n, .int .i64 y.x, .string y.s, .slice ay y.l.length cy] 26)) TV.elem 24 24 (.agg zV) 64 Tryz.underlying24 info_Val rfl W8.heap.size ar4 cr4 ([] ++ L.take i2) ([] ++ F1) (HA4.out.agree TV.elem (fun f hf => (below1 _ _).block f hf) (by have := hsz4; simp at this; omega)) (by have := hcc.size; omega) HA4.out.cap.1 (some ⟨v4.heap.size, 0, none⟩) 2 [x, y] (Gx ++ Gy) (Srcs.pair hIX HWX.out HWY.out (HGX8.out.agree (fun f hf => hcc.block f (HGlt.out f (by simp [hf])))) (HGY8.out.agree (fun f hf => hcc.block f (HGlt.out f (by simp [hf]))))) (fun f hf => HGlt.out f hf) (by simp [maxLen]; omega) (by simp; omega); (try simp only [List.nil_append, htk] at hrun5); refine step_append_run _ rfl _ _ _ _ rfl _ _ rfl rfl _ _ hrun5 ?_; have HA5 := Lib.hid happ5)); refine tkK hK (fun hHeld => ?_); clear hK K)
       refine tkA 21 61 rfl (fun K hK => ?_)
       focus ((((with_reducible refine at_world (v5) ?_); have hcc := (‹_ ∧ Below (W8.heap.size) W8 _›).2; obtain ⟨ar6, cr6, v6, hrun6, happ6, hb6, hout6, hrow6, hsz6⟩ := run_appL (P := Tryz.prog) v5 TV.elem 24 24 (.agg zV) 64 Tryz.underlying24 info_Val rfl W8.heap.size ar5 cr5 (([] ++ L.take i2) ++ [x, y]) (([] ++ F1) ++ (Gx ++ Gy)) HA5.out (by have := hcc.size; omega) HA5.out.cap.1 (some ⟨g, 0, none⟩) 0 (L.drop i2) F2 (HSb0.out.agree TV.elem (fun b o hb _ => by injection hb with hb; injection hb with hb; subst hb; exact hcc.block _ hg8) (fun f hf => hcc.block f (HF2.out f hf))) (fun f hf => HF2.out f hf) (by simp [maxLen]; omega) (by simp; omega); rw [show (L.drop i2).length = 0 from by rw [hdn]; rfl] at hrun6; refine step_append_run _ rfl _ _ _ _ rfl _ _ rfl rfl _ _ hrun6 ?_)); refine tkK hK (fun hHeld => ?_); clear hK K)
       refine tkS 22 4 rfl ?_
       refine tkE ?_
       rotate_left 1
       refine tkC 56 rfl (fun K hK => ?_) AllReadyH.nil
       focus (go_simp; go_wp2_with fail; refine tkK hK (fun hHeld => ?_) (hS := (kpA (by assumption))); clear hK K)
       refine tkA 4 44 rfl (fun K hK => ?_)
       focus ((((with_reducible refine at_world (((W8.alloc (.cells #[] 26)).alloc (.cells #[.int .i64 x.k, .int .i64 x.n, .int .i64 x.x, .string x.s, .slice ax x.l.length cx, .int .i64 y.k, .int .i64 y.n, .int .i64 y.x, .string y.s, .slice ay y.l.length cy] 26)).drew) ?_); have hcc := (‹_ ∧ Below (W8.heap.size) W8 _›).2; have hB41 : True := trivial; obtain ⟨ar4, cr4, v4, hrun4, happ4, hb4, hout4, hrow4, hsz4⟩ := run_appL (P := Tryz.prog) (((W8.alloc (.cells #[] 26)).alloc (.cells #[.int .i64 x.k, .int .i64 x.n, .int .i64 x.x, .string x.s, .slice ax x.l.length cx, .int .i64 y.k, .int .i64 y.n, .int .i64 y.x, .string y.s, .slice ay y.l.length cy] 26)).drew) TV.elem 24 24 (.agg zV) 64 Tryz.underlying24 info_Val rfl W8.heap.size (some ⟨W8.heap.size, 0, none⟩) 0 [] [] ((AppL.empty W8.drew W8.heap.size (by simp)).agree TV.elem (fun f hf => (below1 _ _).block f hf) (by simp)) (by simp; try omega) (by simp) (some ⟨g, 0, none⟩) i2 (L.take i2) F1 (HSa.out.agree TV.elem (fun b o hb _ => by injection hb with hb; injection hb with hb; subst hb; exact hcc.block _ hg8) (fun f hf => hcc.block f (HF1.out f hf))) (fun f hf => HF1.out f hf) (by simp [maxLen]; omega) (by simp; omega); rw [htk] at hrun4; refine step_append_run _ rfl _ _ _ _ rfl _ _ rfl rfl _ _ hrun4 ?_; have HA4 := Lib.hid happ4)); refine tkK hK (fun hHeld => ?_); clear hK K)
       refine tkA 17 57 rfl (fun K hK => ?_)
       focus ((((with_reducible refine at_world (v4) ?_); have hcc := (‹_ ∧ Below (W8.heap.size) W8 _›).2; have _ := hB41; have hIX : Is (v4) (W8.heap.size + 1) 26 #[.int .i64 x.k, .int .i64 x.n, .int .i64 x.x, .string x.s, .slice ax x.l.length cx, .int .i64 y.k, .int .i64 y.n, .int .i64 y.x, .string y.s, .slice ay y.l.length cy] := Is.agree (w := ((W8.alloc (.cells #[] 26)).alloc (.cells #[.int .i64 x.k, .int .i64 x.n, .int .i64 x.x, .string x.s, .slice ax x.l.length cx, .int .i64 y.k, .int .i64 y.n, .int .i64 y.x, .string y.s, .slice ay y.l.length cy] 26)).drew) (by have := Is.new (W8.alloc (.cells #[] 26)) #[.int .i64 x.k, .int .i64 x.n, .int .i64 x.x, .string x.s, .slice ax x.l.length cx, .int .i64 y.k, .int .i64 y.n, .int .i64 y.x, .string y.s, .slice ay y.l.length cy] 26; rw [size_alloc] at this; exact this) (hout4 (W8.heap.size + 1) (by simp only [World.size_drew, size_alloc]; omega) (fun k hk => by simp [Value.ownBlock] at hk; omega)); obtain ⟨ar5, cr5, v5, hrun5, happ5, hb5, hout5, hrow5, hsz5⟩ := run_appL (P := Tryz.prog) (v4) TV.elem 24 24 (.agg zV) 64 Tryz.underlying24 info_Val rfl W8.heap.size ar4 cr4 ([] ++ L.take i2) ([] ++ F1) (HA4.out) (by have := hcc.size; omega) HA4.out.cap.1 (some ⟨W8.heap.size + 1, 0, none⟩) 2 [x, y] (Gx ++ Gy) (Srcs.pair hIX HWX.out HWY.out (HGX8.out.agree (fun f hf => hcc.block f (HGlt.out f (by simp [hf])))) (HGY8.out.agree (fun f hf => hcc.block f (HGlt.out f (by simp [hf]))))) (fun f hf => HGlt.out f hf) (by simp [maxLen]; omega) (by simp; omega); refine step_append_run _ rfl _ _ _ _ rfl _ _ rfl rfl _ _ hrun5 ?_; have HA5 := Lib.hid happ5)); refine tkK hK (fun hHeld => ?_); clear hK K)
       refine tkA 21 61 rfl (fun K hK => ?_)
       focus ((((with_reducible refine at_world (v5) ?_); have hcc := (‹_ ∧ Below (W8.heap.size) W8 _›).2; obtain ⟨ar6, cr6, v6, hrun6, happ6, hb6, hout6, hrow6, hsz6⟩ := run_appL (P := Tryz.prog) v5 TV.elem 24 24 (.agg zV) 64 Tryz.underlying24 info_Val rfl W8.heap.size ar5 cr5 (([] ++ L.take i2) ++ [x, y]) (([] ++ F1) ++ (Gx ++ Gy)) HA5.out (by have := hcc.size; omega) HA5.out.cap.1 (some ⟨g, 0, none⟩) 0 (L.drop i2) F2 (HSb0.out.agree TV.elem (fun b o hb _ => by injection hb with hb; injection hb with hb; subst hb; exact hcc.block _ hg8) (fun f hf => hcc.block f (HF2.out f hf))) (fun f hf => HF2.out f hf) (by simp [maxLen]; omega) (by simp; omega); rw [show (L.drop i2).length = 0 from by rw [hdn]; rfl] at hrun6; refine step_append_run _ rfl _ _ _ _ rfl _ _ rfl rfl _ _ hrun6 ?_)); refine tkK hK (fun hHeld => ?_); clear hK K)
       refine tkS 22 4 rfl ?_
       refine tkE ?_
       rotate_left 1
       refine tkC 56 rfl (fun K hK => ?_) AllReadyH.nil
       focus (go_simp; go_wp2_with fail; refine tkK hK (fun hHeld => ?_) (hS := (kpA (by assumption))); clear hK K)
       refine tkA 0 40 rfl (fun K hK => ?_)
       focus (go_simp; go_wp2_with fail; refine tkK hK (fun hHeld => ?_) (hS := (kpA (by assumption))); clear hK K)
       refine tkA 4 44 rfl (fun K hK => ?_)
       focus ((((with_reducible refine at_world (((W8.alloc (.cells #[.int .i64 x.k, .int .i64 x.n, .int .i64 x.x, .string x.s, .slice ax x.l.length cx, .int .i64 y.k, .int .i64 y.n, .int .i64 y.x, .string y.s, .slice ay y.l.length cy] 26)).alloc (.cells #[] 26)).drew) ?_); have hcc := (‹_ ∧ Below (W8.heap.size) W8 _›).2; have hC41 : True := trivial; obtain ⟨ar4, cr4, v4, hrun4, happ4, hb4, hout4, hrow4, hsz4⟩ := run_appL (P := Tryz.prog) (((W8.alloc (.cells #[.int .i64 x.k, .int .i64 x.n, .int .i64 x.x, .string x.s, .slice ax x.l.length cx, .int .i64 y.k, .int .i64 y.n, .int .i64 y.x, .string y.s, .slice ay y.l.length cy] 26)).alloc (.cells #[] 26)).drew) TV.elem 24 24 (.agg zV) 64 Tryz.underlying24 info_Val rfl W8.heap.size (some ⟨W8.heap.size + 1, 0, none⟩) 0 [] [] ((by have := AppL.empty (E := TV) (n := 5) (e := 26) (W8.alloc (.cells #[.int .i64 x.k, .int .i64 x.n, .int .i64 x.x, .string x.s, .slice ax x.l.length cx, .int .i64 y.k, .int .i64 y.n, .int .i64 y.x, .string y.s, .slice ay y.l.length cy] 26)) W8.heap.size (by simp); rw [size_alloc] at this; exact this)) (by simp; try omega) (by simp) (some ⟨g, 0, none⟩) i2 (L.take i2) F1 (HSa.out.agree TV.elem (fun b o hb _ => by injection hb with hb; injection hb with hb; subst hb; exact hcc.block _ hg8) (fun f hf => hcc.block f (HF1.out f hf))) (fun f hf => HF1.out f hf) (by simp [maxLen]; omega) (by simp; omega); rw [htk] at hrun4; refine step_append_run _ rfl _ _ _ _ rfl _ _ rfl rfl _ _ hrun4 ?_; have HA4 := Lib.hid happ4)); refine tkK hK (fun hHeld => ?_); clear hK K)
       refine tkA 17 57 rfl (fun K hK => ?_)
       focus ((((with_reducible refine at_world (v4) ?_); have hcc := (‹_ ∧ Below (W8.heap.size) W8 _›).2; have _ := hC41; have hIX : Is (v4) (W8.heap.size) 26 #[.int .i64 x.k, .int .i64 x.n, .int .i64 x.x, .string x.s, .slice ax x.l.length cx, .int .i64 y.k, .int .i64 y.n, .int .i64 y.x, .string y.s, .slice ay y.l.length cy] := Is.agree (w := ((W8.alloc (.cells #[.int .i64 x.k, .int .i64 x.n, .int .i64 x.x, .string x.s, .slice ax x.l.length cx, .int .i64 y.k, .int .i64 y.n, .int .i64 y.x, .string y.s, .slice ay y.l.length cy] 26)).alloc (.cells #[] 26)).drew) ((Is.new W8 #[.int .i64 x.k, .int .i64 x.n, .int .i64 x.x, .string x.s, .slice ax x.l.length cx, .int .i64 y.k, .int .i64 y.n, .int .i64 y.x, .string y.s, .slice ay y.l.length cy] 26).alloc _) (hout4 W8.heap.size (by simp only [World.size_drew, size_alloc]; omega) (fun k hk => by simp [Value.ownBlock] at hk; omega)); obtain ⟨ar5, cr5, v5, hrun5, happ5, hb5, hout5, hrow5, hsz5⟩ := run_appL (P := Tryz.prog) (v4) TV.elem 24 24 (.agg zV) 64 Tryz.underlying24 info_Val rfl W8.heap.size ar4 cr4 ([] ++ L.take i2) ([] ++ F1) (HA4.out) (by have := hcc.size; omega) HA4.out.cap.1 (some ⟨W8.heap.size, 0, none⟩) 2 [x, y] (Gx ++ Gy) (Srcs.pair hIX HWX.out HWY.out (HGX8.out.agree (fun f hf => hcc.block f (HGlt.out f (by simp [hf])))) (HGY8.out.agree (fun f hf => hcc.block f (HGlt.out f (by simp [hf]))))) (fun f hf => HGlt.out f hf) (by simp [maxLen]; omega) (by simp; omega); refine step_append_run _ rfl _ _ _ _ rfl _ _ rfl rfl _ _ hrun5 ?_; have HA5 := Lib.hid happ5)); refine tkK hK (fun hHeld => ?_); clear hK K)
       refine tkA 21 61 rfl (fun K hK => ?_)
       focus ((((with_reducible refine at_world (v5) ?_); have hcc := (‹_ ∧ Below (W8.heap.size) W8 _›).2; obtain ⟨ar6, cr6, v6, hrun6, happ6, hb6, hout6, hrow6, hsz6⟩ := run_appL (P := Tryz.prog) v5 TV.elem 24 24 (.agg zV) 64 Tryz.underlying24 info_Val rfl W8.heap.size ar5 cr5 (([] ++ L.take i2) ++ [x, y]) (([] ++ F1) ++ (Gx ++ Gy)) HA5.out (by have := hcc.size; omega) HA5.out.cap.1 (some ⟨g, 0, none⟩) 0 (L.drop i2) F2 (HSb0.out.agree TV.elem (fun b o hb _ => by injection hb with hb; injection hb with hb; subst hb; exact hcc.block _ hg8) (fun f hf => hcc.block f (HF2.out f hf))) (fun f hf => HF2.out f hf) (by simp [maxLen]; omega) (by simp; omega); rw [show (L.drop i2).length = 0 from by rw [hdn]; rfl] at hrun6; refine step_append_run _ rfl _ _ _ _ rfl _ _ rfl rfl _ _ hrun6 ?_)); refine tkK hK (fun hHeld => ?_); clear hK K)
       refine tkS 22 4 rfl ?_
       refine tkE ?_
       all_goals
        obtain ⟨g6, hg6⟩ := AppL.some happ6 (by simp)
        subst hg6
        have HA6 := Lib.hid happ6
        have hcu := (‹_ ∧ Below (W8.heap.size) W8 _›).2
        have HSZ6 := Lib.hid hcu.size
        have HB6 := Lib.hid (HB9.out.trans (hcu.mono hbx))
        have HLN := Lib.hid (show (([] ++ L.take i2) ++ [x, y]) ++ L.drop i2 = srtP l (j + 1) from by
         rw [srtP, ← hL.out, HGD.out.2.1, HGD.out.2.2, HPN.out, HKQ.out]; rfl)
        have HRN := Lib.hid (show Row TV 5 v6 b (o + (i2 + 2) * 5) (l.drop (i2 + 2)) FR2 from HR2.out.agree TV.elem.loc _ (Cells.of_block (HB6.out.block b hbr) _ _) (fun f hf => HB6.out.block f (by have := hfb.out f ((HPM.out.mem_iff (a := f)).1 (by rw [HFRE.out]; simp [hf])); omega)))
        have HPN2 := Lib.hid (perm_ins HPM.out HFF.out HFRE.out)
        clear hcu hrun4 hrun5 hrun6 hout4 hout5 hout6 hrow4 hrow5 hrow6 hb4 hb5 hb6 hsz4 hsz5 hsz6 HA4 HA5 happ4 happ5 happ6 g0 g1 g2 g3 g4 k0 k1 k2 k3 k4 HSa HSb HX9 HB9 HGX8 HGY8 hHeld
        go_wp2_with fail
        go_roundw
        case rel =>
         refine ⟨j + 1, i2 + 2, (([] ++ L.take i2) ++ [x, y]) ++ L.drop i2, g6, cr6, W8.heap.size, ([] ++ F1 ++ (Gx ++ Gy) ++ F2), FR2, ?_, by go_num, Lib.hid (by have := HLJ.out; omega), by omega, HLN, ?_, HA6, HSZ6.out, by omega, HRN, HPN2, Lib.hid (HBR.out.trans (HB6.out.mono hbs))⟩
         ·first | rfl | (rw [HLN.out, srtP_len]; congr 1; have := HLJ.out; omega)
         ·rw [HLN.out, srtP_len]; have := HLJ.out; omega
        case measure => simp [intOf]; omega
      ·have hck2 : kq < cr := by omega
       refine tkW (W8.heap.size) W8 (fun hHeld => ?_)
       refine tkS 1 41 rfl ?_
       refine tkS 2 42 rfl ?_
       refine tkS 3 43 rfl ?_
       refine tkS 5 45 rfl ?_
       refine tkS 6 46 rfl ?_
       refine tkS 7 47 rfl ?_
       refine tkS 8 48 rfl ?_
       refine tkS 9 49 rfl ?_
       refine tkS 10 50 rfl ?_
       refine tkS 11 51 rfl ?_
       refine tkS 12 52 rfl ?_
       refine tkS 13 53 rfl ?_
       refine tkS 14 54 rfl ?_
       refine tkS 15 55 rfl ?_
       refine tkS 18 58 rfl ?_
       refine tkS 19 59 rfl ?_
       refine tkS 20 60 rfl ?_
       refine tkR [0, 16] ?_
       refine tkC 40 rfl (fun K hK => ?_) ?_
       focus (go_simp; go_wp2_with fail; refine tkK hK (fun hHeld => ?_) (hS := (kpA (by assumption))); clear hK K)
       refine tkR [4, 16] ?_
       refine tkC 44 rfl (fun K hK => ?_) ?_
       focus ((((with_reducible refine at_world ((W8.alloc (.cells #[] 26)).drew) ?_); have hcc := (‹_ ∧ Below (W8.heap.size) W8 _›).2; obtain ⟨ar4, cr4, v4, hrun4, happ4, hb4, hout4, hrow4, hsz4⟩ := run_appL (P := Tryz.prog) ((W8.alloc (.cells #[] 26)).drew) TV.elem 24 24 (.agg zV) 64 Tryz.underlying24 info_Val rfl W8.heap.size (some ⟨W8.heap.size, 0, none⟩) 0 [] [] (AppL.empty W8.drew W8.heap.size (by simp)) (by simp; try omega) (by simp) (some ⟨g, 0, none⟩) cr (L.take kq) F1 (HSa.out.agree TV.elem (fun b o hb _ => by injection hb with hb; injection hb with hb; subst hb; exact hcc.block _ hg8) (fun f hf => hcc.block f (HF1.out f hf))) (fun f hf => HF1.out f hf) (by simp [maxLen]; omega) (by simp; omega); rw [htk] at hrun4; refine step_append_run _ rfl _ _ _ _ rfl _ _ rfl rfl _ _ hrun4 ?_; have HA4 := Lib.hid happ4)); refine tkK hK (fun hHeld => ?_); clear hK K)
       refine tkA 16 56 rfl (fun K hK => ?_)
       focus (go_simp; go_wp2_with fail; refine tkK hK (fun hHeld => ?_) (hS := (kpA (by assumption))); clear hK K)
       refine tkA 17 57 rfl (fun K hK => ?_)
       focus ((((with_reducible refine at_world (v4.alloc (.cells #[.int .i64 x.k, .int .i64 x.n, .int .i64 x.x, .string x.s, .slice ax x.l.length cx, .int .i64 y.k, .int .i64 y.n, .int .i64 y.x, .string y.s, .slice ay y.l.length cy] 26)) ?_); have hcc := (‹_ ∧ Below (W8.heap.size) W8 _›).2; have hIX : Is (v4.alloc (.cells #[.int .i64 x.k, .int .i64 x.n, .int .i64 x.x, .string x.s, .slice ax x.l.length cx, .int .i64 y.k, .int .i64 y.n, .int .i64 y.x, .string y.s, .slice ay y.l.length cy] 26)) (v4.heap.size) 26 #[.int .i64 x.k, .int .i64 x.n, .int .i64 x.x, .string x.s, .slice ax x.l.length cx, .int .i64 y.k, .int .i64 y.n, .int .i64 y.x, .string y.s, .slice ay y.l.length cy] := Is.new v4 _ _; obtain ⟨ar5, cr5, v5, hrun5, happ5, hb5, hout5, hrow5, hsz5⟩ := run_appL (P := Tryz.prog) (v4.alloc (.cells #[.int .i64 x.k, .int .i64 x.n, .int .i64 x.x, .string x.s, .slice ax x.l.length cx, .int .i64 y.k, .int .i64 y.n, .int .i64 y.x, .string y.s, .slice ay y.l.length cy] 26)) TV.elem 24 24 (.agg zV) 64 Tryz.underlying24 info_Val rfl W8.heap.size ar4 cr4 ([] ++ L.take kq) ([] ++ F1) (HA4.out.agree TV.elem (fun f hf => (below1 _ _).block f hf) (by have := hsz4; simp at this; omega)) (by have := hcc.size; omega) HA4.out.cap.1 (some ⟨v4.heap.size, 0, none⟩) 2 [x, y] (Gx ++ Gy) (Srcs.pair hIX HWX.out HWY.out (HGX8.out.agree (fun f hf => hcc.block f (HGlt.out f (by simp [hf])))) (HGY8.out.agree (fun f hf => hcc.block f (HGlt.out f (by simp [hf]))))) (fun f hf => HGlt.out f hf) (by simp [maxLen]; omega) (by simp; omega); (try simp only [List.nil_append, htk] at hrun5); refine step_append_run _ rfl _ _ _ _ rfl _ _ rfl rfl _ _ hrun5 ?_; have HA5 := Lib.hid happ5)); refine tkK hK (fun hHeld => ?_); clear hK K)
       refine tkA 21 61 rfl (fun K hK => ?_)
       focus ((((with_reducible refine at_world (v5) ?_); have hcc := (‹_ ∧ Below (W8.heap.size) W8 _›).2; obtain ⟨ar6, cr6, v6, hrun6, happ6, hb6, hout6, hrow6, hsz6⟩ := run_appL (P := Tryz.prog) v5 TV.elem 24 24 (.agg zV) 64 Tryz.underlying24 info_Val rfl W8.heap.size ar5 cr5 (([] ++ L.take kq) ++ [x, y]) (([] ++ F1) ++ (Gx ++ Gy)) HA5.out (by have := hcc.size; omega) HA5.out.cap.1 (some ⟨g, kq * 5, none⟩) (cr - kq) (L.drop kq) F2 (HSb.out.agree TV.elem (fun b o hb _ => by injection hb with hb; injection hb with hb; subst hb; exact hcc.block _ hg8) (fun f hf => hcc.block f (HF2.out f hf))) (fun f hf => HF2.out f hf) (by simp [maxLen]; omega) (by simp; omega); rw [hdk] at hrun6; refine step_append_run _ rfl _ _ _ _ rfl _ _ rfl rfl _ _ hrun6 ?_)); refine tkK hK (fun hHeld => ?_); clear hK K)
       refine tkS 22 4 rfl ?_
       refine tkE ?_
       rotate_left 1
       refine tkC 56 rfl (fun K hK => ?_) AllReadyH.nil
       focus (go_simp; go_wp2_with fail; refine tkK hK (fun hHeld => ?_) (hS := (kpA (by assumption))); clear hK K)
       refine tkA 4 44 rfl (fun K hK => ?_)
       focus ((((with_reducible refine at_world (((W8.alloc (.cells #[] 26)).alloc (.cells #[.int .i64 x.k, .int .i64 x.n, .int .i64 x.x, .string x.s, .slice ax x.l.length cx, .int .i64 y.k, .int .i64 y.n, .int .i64 y.x, .string y.s, .slice ay y.l.length cy] 26)).drew) ?_); have hcc := (‹_ ∧ Below (W8.heap.size) W8 _›).2; have hB41 : True := trivial; obtain ⟨ar4, cr4, v4, hrun4, happ4, hb4, hout4, hrow4, hsz4⟩ := run_appL (P := Tryz.prog) (((W8.alloc (.cells #[] 26)).alloc (.cells #[.int .i64 x.k, .int .i64 x.n, .int .i64 x.x, .string x.s, .slice ax x.l.length cx, .int .i64 y.k, .int .i64 y.n, .int .i64 y.x, .string y.s, .slice ay y.l.length cy] 26)).drew) TV.elem 24 24 (.agg zV) 64 Tryz.underlying24 info_Val rfl W8.heap.size (some ⟨W8.heap.size, 0, none⟩) 0 [] [] ((AppL.empty W8.drew W8.heap.size (by simp)).agree TV.elem (fun f hf => (below1 _ _).block f hf) (by simp)) (by simp; try omega) (by simp) (some ⟨g, 0, none⟩) cr (L.take kq) F1 (HSa.out.agree TV.elem (fun b o hb _ => by injection hb with hb; injection hb with hb; subst hb; exact hcc.block _ hg8) (fun f hf => hcc.block f (HF1.out f hf))) (fun f hf => HF1.out f hf) (by simp [maxLen]; omega) (by simp; omega); rw [htk] at hrun4; refine step_append_run _ rfl _ _ _ _ rfl _ _ rfl rfl _ _ hrun4 ?_; have HA4 := Lib.hid happ4)); refine tkK hK (fun hHeld => ?_); clear hK K)
       refine tkA 17 57 rfl (fun K hK => ?_)
       focus ((((with_reducible refine at_world (v4) ?_); have hcc := (‹_ ∧ Below (W8.heap.size) W8 _›).2; have _ := hB41; have hIX : Is (v4) (W8.heap.size + 1) 26 #[.int .i64 x.k, .int .i64 x.n, .int .i64 x.x, .string x.s, .slice ax x.l.length cx, .int .i64 y.k, .int .i64 y.n, .int .i64 y.x, .string y.s, .slice ay y.l.length cy] := Is.agree (w := ((W8.alloc (.cells #[] 26)).alloc (.cells #[.int .i64 x.k, .int .i64 x.n, .int .i64 x.x, .string x.s, .slice ax x.l.length cx, .int .i64 y.k, .int .i64 y.n, .int .i64 y.x, .string y.s, .slice ay y.l.length cy] 26)).drew) (by have := Is.new (W8.alloc (.cells #[] 26)) #[.int .i64 x.k, .int .i64 x.n, .int .i64 x.x, .string x.s, .slice ax x.l.length cx, .int .i64 y.k, .int .i64 y.n, .int .i64 y.x, .string y.s, .slice ay y.l.length cy] 26; rw [size_alloc] at this; exact this) (hout4 (W8.heap.size + 1) (by simp only [World.size_drew, size_alloc]; omega) (fun k hk => by simp [Value.ownBlock] at hk; omega)); obtain ⟨ar5, cr5, v5, hrun5, happ5, hb5, hout5, hrow5, hsz5⟩ := run_appL (P := Tryz.prog) (v4) TV.elem 24 24 (.agg zV) 64 Tryz.underlying24 info_Val rfl W8.heap.size ar4 cr4 ([] ++ L.take kq) ([] ++ F1) (HA4.out) (by have := hcc.size; omega) HA4.out.cap.1 (some ⟨W8.heap.size + 1, 0, none⟩) 2 [x, y] (Gx ++ Gy) (Srcs.pair hIX HWX.out HWY.out (HGX8.out.agree (fun f hf => hcc.block f (HGlt.out f (by simp [hf])))) (HGY8.out.agree (fun f hf => hcc.block f (HGlt.out f (by simp [hf]))))) (fun f hf => HGlt.out f hf) (by simp [maxLen]; omega) (by simp; omega); refine step_append_run _ rfl _ _ _ _ rfl _ _ rfl rfl _ _ hrun5 ?_; have HA5 := Lib.hid happ5)); refine tkK hK (fun hHeld => ?_); clear hK K)
       refine tkA 21 61 rfl (fun K hK => ?_)
       focus ((((with_reducible refine at_world (v5) ?_); have hcc := (‹_ ∧ Below (W8.heap.size) W8 _›).2; obtain ⟨ar6, cr6, v6, hrun6, happ6, hb6, hout6, hrow6, hsz6⟩ := run_appL (P := Tryz.prog) v5 TV.elem 24 24 (.agg zV) 64 Tryz.underlying24 info_Val rfl W8.heap.size ar5 cr5 (([] ++ L.take kq) ++ [x, y]) (([] ++ F1) ++ (Gx ++ Gy)) HA5.out (by have := hcc.size; omega) HA5.out.cap.1 (some ⟨g, kq * 5, none⟩) (cr - kq) (L.drop kq) F2 (HSb.out.agree TV.elem (fun b o hb _ => by injection hb with hb; injection hb with hb; subst hb; exact hcc.block _ hg8) (fun f hf => hcc.block f (HF2.out f hf))) (fun f hf => HF2.out f hf) (by simp [maxLen]; omega) (by simp; omega); rw [hdk] at hrun6; refine step_append_run _ rfl _ _ _ _ rfl _ _ rfl rfl _ _ hrun6 ?_)); refine tkK hK (fun hHeld => ?_); clear hK K)
       refine tkS 22 4 rfl ?_
       refine tkE ?_
       rotate_left 1
       refine tkC 56 rfl (fun K hK => ?_) AllReadyH.nil
       focus (go_simp; go_wp2_with fail; refine tkK hK (fun hHeld => ?_) (hS := (kpA (by assumption))); clear hK K)
       refine tkA 0 40 rfl (fun K hK => ?_)
       focus (go_simp; go_wp2_with fail; refine tkK hK (fun hHeld => ?_) (hS := (kpA (by assumption))); clear hK K)
       refine tkA 4 44 rfl (fun K hK => ?_)
       focus ((((with_reducible refine at_world (((W8.alloc (.cells #[.int .i64 x.k, .int .i64 x.n, .int .i64 x.x, .string x.s, .slice ax x.l.length cx, .int .i64 y.k, .int .i64 y.n, .int .i64 y.x, .string y.s, .slice ay y.l.length cy] 26)).alloc (.cells #[] 26)).drew) ?_); have hcc := (‹_ ∧ Below (W8.heap.size) W8 _›).2; have hC41 : True := trivial; obtain ⟨ar4, cr4, v4, hrun4, happ4, hb4, hout4, hrow4, hsz4⟩ := run_appL (P := Tryz.prog) (((W8.alloc (.cells #[.int .i64 x.k, .int .i64 x.n, .int .i64 x.x, .string x.s, .slice ax x.l.length cx, .int .i64 y.k, .int .i64 y.n, .int .i64 y.x, .string y.s, .slice ay y.l.length cy] 26)).alloc (.cells #[] 26)).drew) TV.elem 24 24 (.agg zV) 64 Tryz.underlying24 info_Val rfl W8.heap.size (some ⟨W8.heap.size + 1, 0, none⟩) 0 [] [] ((by have := AppL.empty (E := TV) (n := 5) (e := 26) (W8.alloc (.cells #[.int .i64 x.k, .int .i64 x.n, .int .i64 x.x, .string x.s, .slice ax x.l.length cx, .int .i64 y.k, .int .i64 y.n, .int .i64 y.x, .string y.s, .slice ay y.l.length cy] 26)) W8.heap.size (by simp); rw [size_alloc] at this; exact this)) (by simp; try omega) (by simp) (some ⟨g, 0, none⟩) cr (L.take kq) F1 (HSa.out.agree TV.elem (fun b o hb _ => by injection hb with hb; injection hb with hb; subst hb; exact hcc.block _ hg8) (fun f hf => hcc.block f (HF1.out f hf))) (fun f hf => HF1.out f hf) (by simp [maxLen]; omega) (by simp; omega); rw [htk] at hrun4; refine step_append_run _ rfl _ _ _ _ rfl _ _ rfl rfl _ _ hrun4 ?_; have HA4 := Lib.hid happ4)); refine tkK hK (fun hHeld => ?_); clear hK K)
       refine tkA 17 57 rfl (fun K hK => ?_)
       focus ((((with_reducible refine at_world (v4) ?_); have hcc := (‹_ ∧ Below (W8.heap.size) W8 _›).2; have _ := hC41; have hIX : Is (v4) (W8.heap.size) 26 #[.int .i64 x.k, .int .i64 x.n, .int .i64 x.x, .string x.s, .slice ax x.l.length cx, .int .i64 y.k, .int .i64 y.n, .int .i64 y.x, .string y.s, .slice ay y.l.length cy] := Is.agree (w := ((W8.alloc (.cells #[.int .i64 x.k, .int .i64 x.n, .int .i64 x.x, .string x.s, .slice ax x.l.length cx, .int .i64 y.k, .int .i64 y.n, .int .i64 y.x, .string y.s, .slice ay y.l.length cy] 26)).alloc (.cells #[] 26)).drew) ((Is.new W8 #[.int .i64 x.k, .int .i64 x.n, .int .i64 x.x, .string x.s, .slice ax x.l.length cx, .int .i64 y.k, .int .i64 y.n, .int .i64 y.x, .string y.s, .slice ay y.l.length cy] 26).alloc _) (hout4 W8.heap.size (by simp only [World.size_drew, size_alloc]; omega) (fun k hk => by simp [Value.ownBlock] at hk; omega)); obtain ⟨ar5, cr5, v5, hrun5, happ5, hb5, hout5, hrow5, hsz5⟩ := run_appL (P := Tryz.prog) (v4) TV.elem 24 24 (.agg zV) 64 Tryz.underlying24 info_Val rfl W8.heap.size ar4 cr4 ([] ++ L.take kq) ([] ++ F1) (HA4.out) (by have := hcc.size; omega) HA4.out.cap.1 (some ⟨W8.heap.size, 0, none⟩) 2 [x, y] (Gx ++ Gy) (Srcs.pair hIX HWX.out HWY.out (HGX8.out.agree (fun f hf => hcc.block f (HGlt.out f (by simp [hf])))) (HGY8.out.agree (fun f hf => hcc.block f (HGlt.out f (by simp [hf]))))) (fun f hf => HGlt.out f hf) (by simp [maxLen]; omega) (by simp; omega); refine step_append_run _ rfl _ _ _ _ rfl _ _ rfl rfl _ _ hrun5 ?_; have HA5 := Lib.hid happ5)); refine tkK hK (fun hHeld => ?_); clear hK K)
       refine tkA 21 61 rfl (fun K hK => ?_)
       focus ((((with_reducible refine at_world (v5) ?_); have hcc := (‹_ ∧ Below (W8.heap.size) W8 _›).2; obtain ⟨ar6, cr6, v6, hrun6, happ6, hb6, hout6, hrow6, hsz6⟩ := run_appL (P := Tryz.prog) v5 TV.elem 24 24 (.agg zV) 64 Tryz.underlying24 info_Val rfl W8.heap.size ar5 cr5 (([] ++ L.take kq) ++ [x, y]) (([] ++ F1) ++ (Gx ++ Gy)) HA5.out (by have := hcc.size; omega) HA5.out.cap.1 (some ⟨g, kq * 5, none⟩) (cr - kq) (L.drop kq) F2 (HSb.out.agree TV.elem (fun b o hb _ => by injection hb with hb; injection hb with hb; subst hb; exact hcc.block _ hg8) (fun f hf => hcc.block f (HF2.out f hf))) (fun f hf => HF2.out f hf) (by simp [maxLen]; omega) (by simp; omega); rw [hdk] at hrun6; refine step_append_run _ rfl _ _ _ _ rfl _ _ rfl rfl _ _ hrun6 ?_)); refine tkK hK (fun hHeld => ?_); clear hK K)
       refine tkS 22 4 rfl ?_
       refine tkE ?_
       all_goals
        obtain ⟨g6, hg6⟩ := AppL.some happ6 (by simp)
        subst hg6
        have HA6 := Lib.hid happ6
        have hcu := (‹_ ∧ Below (W8.heap.size) W8 _›).2
        have HSZ6 := Lib.hid hcu.size
        have HB6 := Lib.hid (HB9.out.trans (hcu.mono hbx))
        have HLN := Lib.hid (show (([] ++ L.take kq) ++ [x, y]) ++ L.drop kq = srtP l (j + 1) from by
         rw [srtP, ← hL.out, HGD.out.2.1, HGD.out.2.2, HPN.out, HKQ.out]; rfl)
        have HRN := Lib.hid (show Row TV 5 v6 b (o + (i2 + 2) * 5) (l.drop (i2 + 2)) FR2 from HR2.out.agree TV.elem.loc _ (Cells.of_block (HB6.out.block b hbr) _ _) (fun f hf => HB6.out.block f (by have := hfb.out f ((HPM.out.mem_iff (a := f)).1 (by rw [HFRE.out]; simp [hf])); omega)))
        have HPN2 := Lib.hid (perm_ins HPM.out HFF.out HFRE.out)
        clear hcu hrun4 hrun5 hrun6 hout4 hout5 hout6 hrow4 hrow5 hrow6 hb4 hb5 hb6 hsz4 hsz5 hsz6 HA4 HA5 happ4 happ5 happ6 g0 g1 g2 g3 g4 k0 k1 k2 k3 k4 HSa HSb HX9 HB9 HGX8 HGY8 hHeld
        go_wp2_with fail
        go_roundw
        case rel =>
         refine ⟨j + 1, i2 + 2, (([] ++ L.take kq) ++ [x, y]) ++ L.drop kq, g6, cr6, W8.heap.size, ([] ++ F1 ++ (Gx ++ Gy) ++ F2), FR2, ?_, by go_num, Lib.hid (by have := HLJ.out; omega), by omega, HLN, ?_, HA6, HSZ6.out, by omega, HRN, HPN2, Lib.hid (HBR.out.trans (HB6.out.mono hbs))⟩
         ·first | rfl | (rw [HLN.out, srtP_len]; congr 1; have := HLJ.out; omega)
         ·rw [HLN.out, srtP_len]; have := HLJ.out; omega
        case measure => simp [intOf]; omega
  ·have hltz : ¬ (i2 : Int) < (l.length : Int) := by omega
   have hie : i2 = l.length := by omega
   have HPP := Lib.hid (show L = P from by rw [← HPE.out, hL.out]; congr 1; have := hi2.out; omega)
   have hFR : FR = [] := by
    have h2 := HRW.out
    rw [hie, List.drop_length] at h2
    exact h2
   have HFN := Lib.hid (show F.Nodup from by
    have h3 := HPM.out
    rw [hFR, List.append_nil] at h3
    exact h3.nodup_iff.2 hnd.out)
   have HFB := Lib.hid (show ∀ f ∈ F, W0.heap.size ≤ f ∧ f < X ∧ Unf wr f from fun f hf => by
    have h1 := (HPM.out.mem_iff (a := f)).1 (by simp [hf])
    have h2 := hfb.out f h1
    exact ⟨h2.1, h2.2.1, h2.2.2.agree (HBR.out.block f (by omega))⟩)
   obtain ⟨r0, r1, r2, r3, r4⟩ := HR5.out.cells5
   have fr := fun i => HR5.out.frozen i
   have fx := fun i => HX5.out.frozen i
   clear hbo hrow hnd hfb HRW HPM hFR
   have HLl := Lib.hid hLl; clear hLl hie hlt
   go_wp2_with fail
   have p8 := HR5.out.miss X 4 (by omega) (.slice (some ⟨g, 0, none⟩) L.length cr)
   obtain ⟨e0, e1, e2, e3, e4, hbel, hold, hsz⟩ := out5 p8.blk (.int .i64 10) (.int .i64 n) (.int .i64 x0) (.string s) (.slice (some ⟨g, 0, none⟩) L.length cr) R (Nat.le_refl _)
   refine bodyPost_ret (v := .agg #[.int .i64 10, .int .i64 n, .int .i64 x0, .string s, .slice (some ⟨g, 0, none⟩) L.length cr]) (by simp [results, Tryz.results114, go_sem, e0, e1, e2, e3, e4]) rfl ⟨some ⟨g, 0, none⟩, cr, by rw [HPP.out], ?_, ?_⟩
   ·rw [← HPP.out]
    refine Own.ow.2 ?_
    obtain ⟨F2, q1, q2, q3⟩ := HA.out.ownTo (w' := _) (lo := W0.heap.size) HFN.out (by omega) (fun f hf => ⟨(HFB.out f hf).1, (HFB.out f hf).2.2⟩) (show wr.heap.size ≤ _ from by rw [hsz, size_set]; exact Nat.le_refl _) (fun f h1 h2 => (hold f (by rcases h1 with h1 | h1; have := HFB.out f h1; omega; omega)).trans (heap_miss _ _ _ _ (by rcases h1 with h1 | h1; have := HFB.out f h1; omega; omega) _))
    exact ⟨F2, q1, q2, fun f hf => ⟨by have := (q3 f hf).1; omega, (q3 f hf).2.1, (q3 f hf).2.2⟩⟩
   ·exact H4.out.trans ((HBR.out.mono (by omega)).trans (((below1s wr X 4 _).mono (by omega)).trans (hbel.mono (by omega))))
end Go.Proofs.YtggdenkmohnijaaGreatDoor
