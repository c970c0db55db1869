/- Texts of this proof, merged: Drw8. No condition beyond what each theorem states. -/
import Derived.Test.YtggdenkmohnijaaGreatDoorZO18
set_option linter.unusedSimpArgs false
set_option linter.unnecessarySimpa false
namespace Go.Proofs.YtggdenkmohnijaaGreatDoor
open Go.ChangeShapes Go.WideShapes Go.ChangeAt Go.RowKit Go.Joins
set_option linter.unusedVariables false
set_option maxRecDepth 100000
theorem App.kp {α : Type} {E : World → Nat → Nat → α → List Nat → Prop} {n : Nat} {e : TypeId} {nd : Prop} (hE : Elem E n) {w w' : World} {A lo hi cap : Nat} {a : Option Addr} {l : List α} (h : App E n e nd w lo hi a cap l) (hk : Kp A w w') (hA : A < lo) (hh : hi ≤ w.heap.size) : App E n e nd w' lo hi a cap l :=
 h.agree hE (fun f h1 h2 => hk.heap f (by omega) (by omega))
def DrewT (A B D : Nat) (w : World) (e : Ending) (w' : World) : Prop := ∃ (t : T) (a : Option Addr) (cap : Nat), e = .returned (.agg (cV t a cap)) ∧ Wf t ∧ t.s.size ≤ 12 ∧ T.sz t ≤ B ∧ Dr D t ∧ App TV 5 26 True w' w.heap.size w'.heap.size a cap t.l ∧ Cur w' A ∧ Kp A w w'
theorem DrewT.leaf {A B D : Nat} {w w' : World} {e : Ending} (k n x : Int) (s : ByteArray) (hk : I64 k) (hn : I64 n) (hx : I64 x) (hs : s.size ≤ 12) (hB : 12 ≤ B) (hD : 1 ≤ D) (hQ : ownQ k n x s 0) (hc : Cur w' A) (hp : Kp A w w') (he : e = .returned (.agg #[.int .i64 k, .int .i64 n, .int .i64 x, .string s, .slice none 0 0])) : DrewT A B D w e w' :=
 ⟨.mk k n x s [], none, 0, he, wf_mk hk hn hx (by omega), hs, by simp only [T.sz, T.szL]; omega, Dr.leaf hQ hs hD, App.nil _ _ _, hc, hp⟩
theorem sz_leaf {t : T} (h : t.l = []) : T.sz t = t.s.size := by
 obtain ⟨k, n, x, s, l⟩ := t
 obtain rfl : l = [] := h
 rfl
theorem pow4_pos (d : Nat) : 1 ≤ 4 ^ d := Nat.succ_le_of_lt (Nat.pos_of_ne_zero (by simp))
theorem pow4_le (d : Nat) (h : d ≤ 3) : 4 ^ d ≤ 64 := Nat.pow_le_pow_right (by omega) h
theorem fin5a {w w4 : World} {A g : Nat} {e : TypeId} (v0 v1 v2 v3 v4 : Value) (o : Obj) (hI : Blk w4 g e 5) (hk : Kp A w w4) (hg : w.heap.size ≤ g) (hc : Cur w4 A) (hA : A < g) :
  ((((((w4.setCell ⟨g, 0, none⟩ v0).setCell ⟨g, 1, none⟩ v1).setCell ⟨g, 2, none⟩ v2).setCell ⟨g, 3, none⟩ v3).setCell ⟨g, 4, none⟩ v4).alloc o).cell? ⟨g, 0, none⟩ = some v0 ∧
  ((((((w4.setCell ⟨g, 0, none⟩ v0).setCell ⟨g, 1, none⟩ v1).setCell ⟨g, 2, none⟩ v2).setCell ⟨g, 3, none⟩ v3).setCell ⟨g, 4, none⟩ v4).alloc o).cell? ⟨g, 1, none⟩ = some v1 ∧
  ((((((w4.setCell ⟨g, 0, none⟩ v0).setCell ⟨g, 1, none⟩ v1).setCell ⟨g, 2, none⟩ v2).setCell ⟨g, 3, none⟩ v3).setCell ⟨g, 4, none⟩ v4).alloc o).cell? ⟨g, 2, none⟩ = some v2 ∧
  ((((((w4.setCell ⟨g, 0, none⟩ v0).setCell ⟨g, 1, none⟩ v1).setCell ⟨g, 2, none⟩ v2).setCell ⟨g, 3, none⟩ v3).setCell ⟨g, 4, none⟩ v4).alloc o).cell? ⟨g, 3, none⟩ = some v3 ∧
  ((((((w4.setCell ⟨g, 0, none⟩ v0).setCell ⟨g, 1, none⟩ v1).setCell ⟨g, 2, none⟩ v2).setCell ⟨g, 3, none⟩ v3).setCell ⟨g, 4, none⟩ v4).alloc o).cell? ⟨g, 4, none⟩ = some v4 ∧
  Cur ((((((w4.setCell ⟨g, 0, none⟩ v0).setCell ⟨g, 1, none⟩ v1).setCell ⟨g, 2, none⟩ v2).setCell ⟨g, 3, none⟩ v3).setCell ⟨g, 4, none⟩ v4).alloc o) A ∧ Kp A w ((((((w4.setCell ⟨g, 0, none⟩ v0).setCell ⟨g, 1, none⟩ v1).setCell ⟨g, 2, none⟩ v2).setCell ⟨g, 3, none⟩ v3).setCell ⟨g, 4, none⟩ v4).alloc o) ∧ (∀ f, f ≠ g → (((((w4.setCell ⟨g, 0, none⟩ v0).setCell ⟨g, 1, none⟩ v1).setCell ⟨g, 2, none⟩ v2).setCell ⟨g, 3, none⟩ v3).setCell ⟨g, 4, none⟩ v4).heap[f]? = w4.heap[f]?) ∧ (((((w4.setCell ⟨g, 0, none⟩ v0).setCell ⟨g, 1, none⟩ v1).setCell ⟨g, 2, none⟩ v2).setCell ⟨g, 3, none⟩ v3).setCell ⟨g, 4, none⟩ v4).heap.size = w4.heap.size := by
 obtain ⟨e0, e1, e2, e3, e4, h5, h6, h7, h8⟩ := fin5 v0 v1 v2 v3 v4 hI hk hg hc hA
 exact ⟨(World.cell?_alloc_some _ _ o (by rw [e0]; rfl)).trans e0, (World.cell?_alloc_some _ _ o (by rw [e1]; rfl)).trans e1, (World.cell?_alloc_some _ _ o (by rw [e2]; rfl)).trans e2, (World.cell?_alloc_some _ _ o (by rw [e3]; rfl)).trans e3, (World.cell?_alloc_some _ _ o (by rw [e4]; rfl)).trans e4, h5.below (below1 _ o) h5.lt, h6.trans (Kp.alloc (Nat.le_of_lt h5.lt) o), h7, h8⟩
theorem App.one {w : World} {lo lo' hi cap : Nat} {a : Option Addr} {t : T} (h : App TV 5 26 True w lo hi a cap t.l) (hwf : Wf t) (hh : hi ≤ w.heap.size) (hl : lo' ≤ lo) (hll : lo ≤ hi) : App TV 5 26 True (w.alloc (.cells (cV t a cap) 26)) lo' (w.heap.size + 1) (Option.some ⟨w.heap.size, 0, none⟩) 1 [t] := by
 obtain ⟨G, g1, g2, g3⟩ := (Own.ow.2 h.own)
 refine Or.inr ⟨w.heap.size, cV t a cap, G, rfl, by omega, by omega, heap_alloc_new w _, by simp, by simp [maxLen], rfl, ⟨G, [], by simp, TV.box 26 g1 hwf (fun f hf => (g3 f hf).2.2.lt), rfl⟩, fun hm => by have := (g3 _ hm).2.1; omega, fun _ => g2, fun f hf => ⟨by have := (g3 f hf).1; omega, by have := (g3 f hf).2.1; omega, (g3 f hf).2.2.alloc _⟩⟩
set_option maxHeartbeats 16000000 in
theorem spec_l6Draw (A : Nat) : ∀ d : Nat, d ≤ 3 → ∀ w : World, Cur w A → Calls Tryz.prog 115 #[.pointer (some ⟨A, 0, none⟩), .int .i64 d] w fun e w' => DrewT A (30 * 4 ^ d) (d + 1) w e w' := by
 intro d
 induction d using Nat.strongRecOn with
 | ind d ih =>
 intro hd w hc
 have IH := Lib.hid ih; clear ih
 have hlA := hc.lt
 have HP4 := Lib.hid (pow4_pos d)
 have HC0 := Lib.hid (hc.below (below1 w (.cells zV 26)) hlA)
 have HK0 := Lib.hid (Kp.alloc (w := w) (Nat.le_of_lt hlA) (.cells zV 26))
 have HI0 := Lib.hid (Is.new w zV 26)
 clear hc
 go_enter Tryz.func115, Tryz.ntmps115
 go_wp2_with fail
 refine (spec_l1Below A 13 _ HC0.out ⟨by decide, by decide⟩).mono ?_
 rintro e w2 ⟨k, rfl, hk, _, hc2, hk2⟩
 have HC2 := Lib.hid hc2; have HI2 := Lib.hid (hk2.is HI0.out (by omega)); have HK2 := Lib.hid (HK0.out.trans hk2); clear hc2 hk2 HI0 HK0 HC0
 go_upto_if 12 with (fail)
 go_cut [5] (fun kv wx => ∃ k : Nat, kv = .int .i64 k ∧ k < 13 ∧ (d = 0 → k < 9) ∧ Hid (Is wx w.heap.size 26 zV) ∧ Hid (Cur wx A) ∧ Hid (Kp A w wx))
 case first =>
  by_cases d0 : d = 0
  ·subst d0
   go_wp2_with fail
   refine (spec_l1Below A 9 w2 HC2.out ⟨by decide, by decide⟩).mono ?_
   rintro e w3 ⟨k3, rfl, hk3, _, hc3, hkp3⟩
   go_wp2_with fail
   go_meet
   case rel => exact ⟨k3, rfl, by omega, fun _ => by omega, Lib.hid (hkp3.is HI2.out (by omega)), Lib.hid hc3, Lib.hid (HK2.out.trans hkp3)⟩
  ·have d0z : ((d : Int) == 0) = false := by simp; omega
   go_wp2_with fail
   go_meet
   case rel => exact ⟨k, rfl, by omega, fun h => absurd h d0, HI2, HC2, HK2⟩
 case rest =>
  clear hk HI2 HC2 HK2
  obtain ⟨k, rfl, hk, hk9, HI, HC, HK⟩ := hcut
  rename World => wx
  by_cases h10 : 10 ≤ k
  ·obtain ⟨d', hdd⟩ : ∃ d', d = d' + 1 := ⟨d - 1, by omega⟩
   have hdz : (d : Int) - 1 = (d' : Int) := by omega
   have hdd2 : d' < d := by omega
   have hd3 : d' ≤ 2 := by omega
   have HDD := Lib.hid hdd; clear hdd
   have hne : ∀ j : Int, j < 10 → ((k : Int) == j) = false := fun j hj => by simp; omega
   have n0 := hne 0 (by decide); have n1 := hne 1 (by decide); have n2 := hne 2 (by decide); have n3 := hne 3 (by decide); have n4 := hne 4 (by decide); have n5 := hne 5 (by decide); have n6 := hne 6 (by decide); have n7 := hne 7 (by decide); have n8 := hne 8 (by decide); have n9 := hne 9 (by decide)
   clear hne
   have HV := Lib.hid (Is.new wx #[Value.int .i64 9, Value.int .i64 0, Value.int .i64 0, Value.string ⟨#[]⟩, Value.slice none 0 0] 26)
   have HI3 := Lib.hid (HI.out.alloc (.cells #[Value.int .i64 9, Value.int .i64 0, Value.int .i64 0, Value.string ⟨#[]⟩, Value.slice none 0 0] 26))
   have HC3 := Lib.hid (HC.out.below (below1 wx (.cells #[Value.int .i64 9, Value.int .i64 0, Value.int .i64 0, Value.string ⟨#[]⟩, Value.slice none 0 0] 26)) HC.out.lt)
   have HK3 := Lib.hid (HK.out.trans (Kp.alloc (Nat.le_of_lt HC.out.lt) (.cells #[Value.int .i64 9, Value.int .i64 0, Value.int .i64 0, Value.string ⟨#[]⟩, Value.slice none 0 0] 26)))
   have hX : w.heap.size < wx.heap.size := HI.out.lt
   have hXA : A < wx.heap.size := by omega
   go_upto_if 70 with (fail)
   obtain ⟨X, hXe⟩ : ∃ X, wx.heap.size = X := ⟨_, rfl⟩
   rw [hXe] at HV hX hXA ⊢
   generalize wx.alloc (.cells #[Value.int .i64 9, Value.int .i64 0, Value.int .i64 0, Value.string ⟨#[]⟩, Value.slice none 0 0] 26) = W0 at *
   clear hXe HI HC HK n0 n1 n2 n3 n4 n5 n6 n7 n8 n9
   go_cut [] (fun wy => ∃ kd : Int, (kd = 9 ∨ kd = 10) ∧ Hid (Is wy X 26 #[Value.int .i64 kd, Value.int .i64 0, Value.int .i64 0, Value.string ⟨#[]⟩, Value.slice none 0 0]) ∧ Hid (Is wy w.heap.size 26 zV) ∧ Hid (Cur wy A) ∧ Hid (Kp A w wy))
   case first =>
    by_cases hg : (10 : Int) < (k : Int)
    rotate_left 1
    ·go_wp2_with fail
     go_meet
     case rel => exact ⟨9, Or.inl rfl, HV, HI3, HC3, HK3⟩
    ·skip
     have ff := fun i => HV.out.frozen i; have lg := HV.out.lt; obtain ⟨z0, z1, z2, z3, z4⟩ := HV.out.cells5
     go_wp2_with fail
     go_meet
     case rel => exact ⟨10, Or.inr rfl, Lib.hid (HV.out.set 0 (.int .i64 10)), Lib.hid (HI3.out.miss X 0 (by omega) _), Lib.hid (HC3.out.set hXA 0 _), Lib.hid (Kp.set HK3.out (by omega) (by omega) 0 _)⟩
   case rest =>
    clear HV HI3 HC3 HK3
    obtain ⟨kd, hkd, HV, HI, HC, HK⟩ := hcut
    rename World => wy
    have hXy := HV.out.lt
    go_wp2_with fail
    refine (spec_l1Below A 4 wy HC.out ⟨by decide, by decide⟩).mono ?_
    rintro e w4 ⟨i0, rfl, hi0, _, hc4, hk4⟩
    have HC4 := Lib.hid hc4; have HI4 := Lib.hid (hk4.is HI.out (by omega)); have HV4 := Lib.hid (hk4.is HV.out (by omega)); have HK4 := Lib.hid (HK.out.trans hk4); clear hc4 hk4 HC HI HV HK
    obtain ⟨B, hB⟩ : ∃ B, 30 * 4 ^ d' = B := ⟨_, rfl⟩
    have HB := Lib.hid hB
    have hB30 : 30 ≤ B := by have := pow4_pos d'; omega
    have HBB := Lib.hid (show 30 * 4 ^ d = 4 * B from by rw [HDD.out, Nat.pow_succ]; omega)
    have hB480 : B ≤ 480 := by have := Nat.pow_le_pow_right (show 0 < 4 by omega) hd3; omega
    clear hB
    go_wp2_with fail
    go_loopw [7, 8] (fun i _ wr => ∃ (j : Nat) (l : List T) (a : Option Addr) (cap : Nat), i = .int .i64 j ∧ j ≤ 3 ∧ l.length + 2 * j ≤ 6 ∧ LOk (d' + 1) kd l 0 ∧ T.szL l + j * (B + 5) ≤ 3 * (B + 5) ∧ Is wr X 26 #[Value.int .i64 kd, Value.int .i64 0, Value.int .i64 0, Value.string ⟨#[]⟩, Value.slice a l.length cap] ∧ App TV 5 26 True wr (X + 1) wr.heap.size a cap l ∧ Is wr w.heap.size 26 zV ∧ Cur wr A ∧ Kp A w wr) (fun i _ _ => (intOf i).toNat)
    case atStart => exact ⟨i0, [], none, 0, rfl, by omega, by simp; omega, LOk.nil _ _, by simp only [T.szL]; rcases (show i0 = 0 ∨ i0 = 1 ∨ i0 = 2 ∨ i0 = 3 by omega) with rfl | rfl | rfl | rfl <;> omega, HV4.out, App.nil _ _ _, HI4.out, HC4.out, HK4.out⟩
    case round =>
     obtain ⟨j, l, a, cap, rfl, hj3, hjl, hlo, hjz, hv, happ, hi, hc, hk⟩ := hrel
     have HLO := Lib.hid hlo; clear hlo
     have HV := Lib.hid hv; have HA := Lib.hid happ; have HI := Lib.hid hi; have HC := Lib.hid hc; have HK := Lib.hid hk; clear hv happ hi hc hk HV4 HI4 HC4 HK4
     have hXr := HV.out.lt
     by_cases hj0 : 0 < j
     ·obtain ⟨i, rfl⟩ : ∃ i, j = i + 1 := ⟨j - 1, by omega⟩
      have hjg : (0 : Int) < ((i + 1 : Nat) : Int) := by omega
      have hjw : ((i + 1 : Nat) : Int) - 1 = (i : Int) := by omega
      rw [Nat.succ_mul] at hjz
      generalize hiB : i * (B + 5) = iB at *
      have ff := fun i => HV.out.frozen i; have lg := HV.out.lt; obtain ⟨z0, z1, z2, z3, z4⟩ := HV.out.cells5
      go_upto_if 80 with (fail)
      go_cut [] (fun wy => ∃ (l2 : List T) (a2 : Option Addr) (c2 : Nat), l2.length ≤ l.length + 1 ∧ Hid (LOk (d' + 1) kd l2 1) ∧ T.szL l2 ≤ T.szL l + 4 ∧ Hid (Is wy X 26 #[Value.int .i64 kd, Value.int .i64 0, Value.int .i64 0, Value.string ⟨#[]⟩, Value.slice a2 l2.length c2]) ∧ Hid (App TV 5 26 True wy (X + 1) wy.heap.size a2 c2 l2) ∧ Hid (Is wy w.heap.size 26 zV) ∧ Hid (Cur wy A) ∧ Hid (Kp A w wy))
      case first =>
       rcases hkd with rfl | rfl
       ·go_wp2_with fail
        go_meet
        case rel => exact ⟨l, a, cap, by omega, Lib.hid HLO.out.skip, by omega, HV, HA, HI, HC, HK⟩
       ·have HCD := Lib.hid (HC.out.below (Below.refl (A + 1) wr).drew (by omega))
        have HKD := Lib.hid (show Kp A wr wr.drew from ⟨(Below.refl _ _).drew, fun _ _ _ => rfl⟩)
        go_upto_region 31 with (fail)
        refine wp_region_held_drew (S := fun _ => True) (by kernel_rfl) trivial (fun hHeld => ?_)
        refine tkS 0 81 rfl ?_
        refine tkS 2 83 rfl ?_
        refine wpAnyH_ready (rs := [1, 3]) (by kernel_rfl) (by simp) ?_
        refine AllReadyH.cons (o := ⟨some 82, _, _, _, _, _⟩) rfl (fun K hK => ?_) ?_
        focus (go_simp; go_wp2_with fail; refine hK.out _ _ trivial (fun hHeld => ?_); clear hK K; try simp only [Act.put, tkL, tkZ, tkN])
        refine wpAnyH_ready (rs := [3]) (by kernel_rfl) (by simp) ?_
        refine AllReadyH.cons (o := ⟨some 84, _, _, _, _, _⟩) rfl (fun K hK => ?_) AllReadyH.nil
        focus (go_simp; (first | (go_at_call 183; refine (spec_l6Name A _ HCD.out).mono ?_; rintro e w5 ⟨t, rfl, htl, htn, htw, hts, hc5, hk5⟩; have HTL := Lib.hid htl; clear htl; have HTN := Lib.hid htn; clear htn; have HK5 := Lib.hid (show Kp A wr w5 from HKD.out.trans hk5); have hx5 := HK5.out.is HV.out (by omega); have hi5 := HK5.out.is HI.out (by omega); have ff5 := (fun i => hx5.frozen i); have lg5 := hx5.lt; obtain ⟨v0, v1, v2, v3, v4⟩ := hx5.cells5) | (obtain ⟨a6, c6, w6, hrun, happ6, hb6, hout6, hsz6⟩ := run_app (P := Tryz.prog) (w5.alloc (.cells (cV t none 0) 26)) TV.elem 24 24 (.agg zV) 64 Tryz.underlying24 info_Val rfl (X + 1) wr.heap.size a cap l ((HA.out.kp TV.elem HK5.out (by omega) (Nat.le_refl _)).below TV.elem (below1 w5 _) HK5.out.size) (by have := HK5.out.size; simp; omega) (by omega) (some ⟨w5.heap.size, 0, none⟩) 1 [t] [] (Srcs.one (TV.box 26 (by rw [HTL.out]; exact ⟨by simp, by simp [maxLen], fun _ => rfl, fun h => absurd rfl h⟩) htw (by simp))) (by simp) (by simp) (by simp [maxLen]; omega) (by simp; omega); refine step_append_run _ rfl _ _ _ _ rfl _ _ rfl rfl _ _ hrun ?_; have hx6 := (hx5.alloc (.cells (cV t none 0) 26)).agree (hout6 X (by simp; omega) (fun k hk e => by have := (HA.out.row k hk).1; omega)); have ff6 := (fun i => hx6.frozen i); have lg6 := hx6.lt; obtain ⟨y0, y1, y2, y3, y4⟩ := hx6.cells5)); go_wp2_with fail; refine hK.out _ _ trivial (fun hHeld => ?_); clear hK K; try simp only [Act.put, tkL, tkZ, tkN])
        refine wpAnyH_ready (rs := [4]) (by kernel_rfl) (by simp) ?_
        refine AllReadyH.cons (o := ⟨some 85, _, _, _, _, _⟩) rfl (fun K hK => ?_) AllReadyH.nil
        focus (go_simp; go_wp2_with fail; refine hK.out _ _ trivial (fun hHeld => ?_); clear hK K; try simp only [Act.put, tkL, tkZ, tkN])
        refine wpAnyH_ready (rs := [5]) (by kernel_rfl) (by simp) ?_
        refine AllReadyH.cons (o := ⟨some 86, _, _, _, _, _⟩) rfl (fun K hK => ?_) AllReadyH.nil
        focus ((first | (go_at_call 183; refine (spec_l6Name A _ HCD.out).mono ?_; rintro e w5 ⟨t, rfl, htl, htn, htw, hts, hc5, hk5⟩; have HTL := Lib.hid htl; clear htl; have HTN := Lib.hid htn; clear htn; have HK5 := Lib.hid (show Kp A wr w5 from HKD.out.trans hk5); have hx5 := HK5.out.is HV.out (by omega); have hi5 := HK5.out.is HI.out (by omega); have ff5 := (fun i => hx5.frozen i); have lg5 := hx5.lt; obtain ⟨v0, v1, v2, v3, v4⟩ := hx5.cells5) | (obtain ⟨a6, c6, w6, hrun, happ6, hb6, hout6, hsz6⟩ := run_app (P := Tryz.prog) (w5.alloc (.cells (cV t none 0) 26)) TV.elem 24 24 (.agg zV) 64 Tryz.underlying24 info_Val rfl (X + 1) wr.heap.size a cap l ((HA.out.kp TV.elem HK5.out (by omega) (Nat.le_refl _)).below TV.elem (below1 w5 _) HK5.out.size) (by have := HK5.out.size; simp; omega) (by omega) (some ⟨w5.heap.size, 0, none⟩) 1 [t] [] (Srcs.one (TV.box 26 (by rw [HTL.out]; exact ⟨by simp, by simp [maxLen], fun _ => rfl, fun h => absurd rfl h⟩) htw (by simp))) (by simp) (by simp) (by simp [maxLen]; omega) (by simp; omega); refine step_append_run _ rfl _ _ _ _ rfl _ _ rfl rfl _ _ hrun ?_; have hx6 := (hx5.alloc (.cells (cV t none 0) 26)).agree (hout6 X (by simp; omega) (fun k hk e => by have := (HA.out.row k hk).1; omega)); have ff6 := (fun i => hx6.frozen i); have lg6 := hx6.lt; obtain ⟨y0, y1, y2, y3, y4⟩ := hx6.cells5)); refine hK.out _ _ trivial (fun hHeld => ?_); clear hK K; try simp only [Act.put, tkL, tkZ, tkN])
        refine tkS 6 87 rfl ?_
        refine wpAnyH_ready (rs := [7]) (by kernel_rfl) (by simp) ?_
        refine AllReadyH.cons (o := ⟨none, _, _, _, _, _⟩) rfl (fun K hK => ?_) AllReadyH.nil
        focus (go_simp; go_wp2_with fail; refine hK.out _ _ trivial (fun hHeld => ?_); clear hK K; try simp only [Act.put])
        refine tkE ?_
        rotate_left 1
        refine AllReadyH.cons (o := ⟨some 84, _, _, _, _, _⟩) rfl (fun K hK => ?_) AllReadyH.nil
        focus (go_simp; (first | (go_at_call 183; refine (spec_l6Name A _ HCD.out).mono ?_; rintro e w5 ⟨t, rfl, htl, htn, htw, hts, hc5, hk5⟩; have HTL := Lib.hid htl; clear htl; have HTN := Lib.hid htn; clear htn; have HK5 := Lib.hid (show Kp A wr w5 from HKD.out.trans hk5); have hx5 := HK5.out.is HV.out (by omega); have hi5 := HK5.out.is HI.out (by omega); have ff5 := (fun i => hx5.frozen i); have lg5 := hx5.lt; obtain ⟨v0, v1, v2, v3, v4⟩ := hx5.cells5) | (obtain ⟨a6, c6, w6, hrun, happ6, hb6, hout6, hsz6⟩ := run_app (P := Tryz.prog) (w5.alloc (.cells (cV t none 0) 26)) TV.elem 24 24 (.agg zV) 64 Tryz.underlying24 info_Val rfl (X + 1) wr.heap.size a cap l ((HA.out.kp TV.elem HK5.out (by omega) (Nat.le_refl _)).below TV.elem (below1 w5 _) HK5.out.size) (by have := HK5.out.size; simp; omega) (by omega) (some ⟨w5.heap.size, 0, none⟩) 1 [t] [] (Srcs.one (TV.box 26 (by rw [HTL.out]; exact ⟨by simp, by simp [maxLen], fun _ => rfl, fun h => absurd rfl h⟩) htw (by simp))) (by simp) (by simp) (by simp [maxLen]; omega) (by simp; omega); refine step_append_run _ rfl _ _ _ _ rfl _ _ rfl rfl _ _ hrun ?_; have hx6 := (hx5.alloc (.cells (cV t none 0) 26)).agree (hout6 X (by simp; omega) (fun k hk e => by have := (HA.out.row k hk).1; omega)); have ff6 := (fun i => hx6.frozen i); have lg6 := hx6.lt; obtain ⟨y0, y1, y2, y3, y4⟩ := hx6.cells5)); go_wp2_with fail; refine hK.out _ _ trivial (fun hHeld => ?_); clear hK K; try simp only [Act.put, tkL, tkZ, tkN])
        refine wpAnyH_ready (rs := [1, 4]) (by kernel_rfl) (by simp) ?_
        refine AllReadyH.cons (o := ⟨some 82, _, _, _, _, _⟩) rfl (fun K hK => ?_) ?_
        focus (go_simp; go_wp2_with fail; refine hK.out _ _ trivial (fun hHeld => ?_); clear hK K; try simp only [Act.put, tkL, tkZ, tkN])
        refine wpAnyH_ready (rs := [4]) (by kernel_rfl) (by simp) ?_
        refine AllReadyH.cons (o := ⟨some 85, _, _, _, _, _⟩) rfl (fun K hK => ?_) AllReadyH.nil
        focus (go_simp; go_wp2_with fail; refine hK.out _ _ trivial (fun hHeld => ?_); clear hK K; try simp only [Act.put, tkL, tkZ, tkN])
        refine wpAnyH_ready (rs := [5]) (by kernel_rfl) (by simp) ?_
        refine AllReadyH.cons (o := ⟨some 86, _, _, _, _, _⟩) rfl (fun K hK => ?_) AllReadyH.nil
        focus ((first | (go_at_call 183; refine (spec_l6Name A _ HCD.out).mono ?_; rintro e w5 ⟨t, rfl, htl, htn, htw, hts, hc5, hk5⟩; have HTL := Lib.hid htl; clear htl; have HTN := Lib.hid htn; clear htn; have HK5 := Lib.hid (show Kp A wr w5 from HKD.out.trans hk5); have hx5 := HK5.out.is HV.out (by omega); have hi5 := HK5.out.is HI.out (by omega); have ff5 := (fun i => hx5.frozen i); have lg5 := hx5.lt; obtain ⟨v0, v1, v2, v3, v4⟩ := hx5.cells5) | (obtain ⟨a6, c6, w6, hrun, happ6, hb6, hout6, hsz6⟩ := run_app (P := Tryz.prog) (w5.alloc (.cells (cV t none 0) 26)) TV.elem 24 24 (.agg zV) 64 Tryz.underlying24 info_Val rfl (X + 1) wr.heap.size a cap l ((HA.out.kp TV.elem HK5.out (by omega) (Nat.le_refl _)).below TV.elem (below1 w5 _) HK5.out.size) (by have := HK5.out.size; simp; omega) (by omega) (some ⟨w5.heap.size, 0, none⟩) 1 [t] [] (Srcs.one (TV.box 26 (by rw [HTL.out]; exact ⟨by simp, by simp [maxLen], fun _ => rfl, fun h => absurd rfl h⟩) htw (by simp))) (by simp) (by simp) (by simp [maxLen]; omega) (by simp; omega); refine step_append_run _ rfl _ _ _ _ rfl _ _ rfl rfl _ _ hrun ?_; have hx6 := (hx5.alloc (.cells (cV t none 0) 26)).agree (hout6 X (by simp; omega) (fun k hk e => by have := (HA.out.row k hk).1; omega)); have ff6 := (fun i => hx6.frozen i); have lg6 := hx6.lt; obtain ⟨y0, y1, y2, y3, y4⟩ := hx6.cells5)); refine hK.out _ _ trivial (fun hHeld => ?_); clear hK K; try simp only [Act.put, tkL, tkZ, tkN])
        refine tkS 6 87 rfl ?_
        refine wpAnyH_ready (rs := [7]) (by kernel_rfl) (by simp) ?_
        refine AllReadyH.cons (o := ⟨none, _, _, _, _, _⟩) rfl (fun K hK => ?_) AllReadyH.nil
        focus (go_simp; go_wp2_with fail; refine hK.out _ _ trivial (fun hHeld => ?_); clear hK K; try simp only [Act.put])
        refine tkE ?_
        rotate_left 1
        refine AllReadyH.cons (o := ⟨some 85, _, _, _, _, _⟩) rfl (fun K hK => ?_) AllReadyH.nil
        focus (go_simp; go_wp2_with fail; refine hK.out _ _ trivial (fun hHeld => ?_); clear hK K; try simp only [Act.put, tkL, tkZ, tkN])
        refine wpAnyH_ready (rs := [1]) (by kernel_rfl) (by simp) ?_
        refine AllReadyH.cons (o := ⟨some 82, _, _, _, _, _⟩) rfl (fun K hK => ?_) AllReadyH.nil
        focus (go_simp; go_wp2_with fail; refine hK.out _ _ trivial (fun hHeld => ?_); clear hK K; try simp only [Act.put, tkL, tkZ, tkN])
        refine wpAnyH_ready (rs := [5]) (by kernel_rfl) (by simp) ?_
        refine AllReadyH.cons (o := ⟨some 86, _, _, _, _, _⟩) rfl (fun K hK => ?_) AllReadyH.nil
        focus ((first | (go_at_call 183; refine (spec_l6Name A _ HCD.out).mono ?_; rintro e w5 ⟨t, rfl, htl, htn, htw, hts, hc5, hk5⟩; have HTL := Lib.hid htl; clear htl; have HTN := Lib.hid htn; clear htn; have HK5 := Lib.hid (show Kp A wr w5 from HKD.out.trans hk5); have hx5 := HK5.out.is HV.out (by omega); have hi5 := HK5.out.is HI.out (by omega); have ff5 := (fun i => hx5.frozen i); have lg5 := hx5.lt; obtain ⟨v0, v1, v2, v3, v4⟩ := hx5.cells5) | (obtain ⟨a6, c6, w6, hrun, happ6, hb6, hout6, hsz6⟩ := run_app (P := Tryz.prog) (w5.alloc (.cells (cV t none 0) 26)) TV.elem 24 24 (.agg zV) 64 Tryz.underlying24 info_Val rfl (X + 1) wr.heap.size a cap l ((HA.out.kp TV.elem HK5.out (by omega) (Nat.le_refl _)).below TV.elem (below1 w5 _) HK5.out.size) (by have := HK5.out.size; simp; omega) (by omega) (some ⟨w5.heap.size, 0, none⟩) 1 [t] [] (Srcs.one (TV.box 26 (by rw [HTL.out]; exact ⟨by simp, by simp [maxLen], fun _ => rfl, fun h => absurd rfl h⟩) htw (by simp))) (by simp) (by simp) (by simp [maxLen]; omega) (by simp; omega); refine step_append_run _ rfl _ _ _ _ rfl _ _ rfl rfl _ _ hrun ?_; have hx6 := (hx5.alloc (.cells (cV t none 0) 26)).agree (hout6 X (by simp; omega) (fun k hk e => by have := (HA.out.row k hk).1; omega)); have ff6 := (fun i => hx6.frozen i); have lg6 := hx6.lt; obtain ⟨y0, y1, y2, y3, y4⟩ := hx6.cells5)); refine hK.out _ _ trivial (fun hHeld => ?_); clear hK K; try simp only [Act.put, tkL, tkZ, tkN])
        refine tkS 6 87 rfl ?_
        refine wpAnyH_ready (rs := [7]) (by kernel_rfl) (by simp) ?_
        refine AllReadyH.cons (o := ⟨none, _, _, _, _, _⟩) rfl (fun K hK => ?_) AllReadyH.nil
        focus (go_simp; go_wp2_with fail; refine hK.out _ _ trivial (fun hHeld => ?_); clear hK K; try simp only [Act.put])
        refine tkE ?_
        all_goals
         go_wp2_with fail
         go_meet
         case rel =>
          refine ⟨l ++ [t], a6, c6, by simp, Lib.hid (HLO.out.name HTN.out (by omega)), by rw [T.szL_append]; have h1 := sz_leaf HTL.out; show _ + (1 + T.sz t + 0) ≤ _; omega, Lib.hid (by rw [List.length_append]; exact hx6.set 4 _), Lib.hid ?_, Lib.hid (((hi5.alloc _).below hb6 (by omega)).miss X 4 (by omega) _), Lib.hid ((((hc5.below (below1 w5 _) hc5.lt)).below hb6 (by omega)).set (by omega) 4 _), Lib.hid (Kp.set (Kp.grow (HK.out.trans (HK5.out.trans (Kp.alloc (Nat.le_of_lt hc5.lt) _))) (hb6.mono (by omega)) (by omega)) (by omega) (by omega) 4 _)⟩
          rw [size_set]
          exact happ6.agree TV.elem (fun f hf _ => heap_miss _ _ _ _ (by omega) _)
      case rest =>
       clear z0 z1 z2 z3 z4 ff lg HV HA HI HC HK
       obtain ⟨l2, a2, c2, hl2, HLO2, hz2, HV2, HA2, HI2, HC2, HK2⟩ := hcut
       rename World => wz
       have hXz := HV2.out.lt
       go_wp2_with fail
       refine (IH.out d' hdd2 (by omega) wz HC2.out).mono ?_
       rintro e w5 ⟨t, a3, c3, rfl, htw, hts, htz, htd, happ5, hc5, hk5⟩
       have HTD := Lib.hid htd; clear htd
       rw [HB.out] at htz
       have hs5 := hk5.size
       have HA5 := Lib.hid (HA2.out.kp TV.elem hk5 (by omega) (Nat.le_refl _))
       have hv5 := hk5.is HV2.out (by omega)
       have HI5 := Lib.hid (hk5.is HI2.out (by omega))
       have HC5 := Lib.hid hc5
       have HK5 := Lib.hid (show Kp A w w5 from HK2.out.trans hk5)
       obtain ⟨G, g1, g2, g3⟩ := Own.ow.2 happ5.own
       clear hc5 hk5 happ5
       have hX5 := hv5.lt
       have ff := fun i => hv5.frozen i
       obtain ⟨o0, o1, o2, o3, o4⟩ := hv5.cells5
       have H2 := Lib.hid (below1 w5 (.cells (cV t a3 c3) 26))
       have HN := Lib.hid ((HA5.out.below TV.elem H2.out (by omega)).below TV.elem (below1 (w5.alloc (.cells (cV t a3 c3) 26)) (.cells (cV t a3 c3) 26)) (by simp; omega))
       have HTV := Lib.hid (TV.box (w := w5.alloc (.cells (cV t a3 c3) 26)) 26 (g1.agree (fun f hf => H2.out.block f (g3 f hf).2.2.lt)) htw (fun f hf => by have := (g3 f hf).2.2.lt; simp; omega))
       have HG := Lib.hid (show ∀ f ∈ G, wz.heap.size ≤ f ∧ f < ((w5.alloc (.cells (cV t a3 c3) 26)).alloc (.cells (cV t a3 c3) 26)).heap.size ∧ Unf ((w5.alloc (.cells (cV t a3 c3) 26)).alloc (.cells (cV t a3 c3) 26)) f from fun f hf => ⟨by have := (g3 f hf).1; omega, by have := (g3 f hf).2.1; simp; omega, ((g3 f hf).2.2.alloc _).alloc _⟩)
       have hout3 := Lib.hid ((hv5.alloc (.cells (cV t a3 c3) 26)).alloc (.cells (cV t a3 c3) 26))
       have HI7 := Lib.hid ((HI5.out.alloc (.cells (cV t a3 c3) 26)).alloc (.cells (cV t a3 c3) 26))
       have HB7 := Lib.hid (show Below w5.heap.size w5 ((w5.alloc (.cells (cV t a3 c3) 26)).alloc (.cells (cV t a3 c3) 26)) from H2.out.trans ((below1 _ _).mono (by simp)))
       have hsz7 : ((w5.alloc (.cells (cV t a3 c3) 26)).alloc (.cells (cV t a3 c3) 26)).heap.size = w5.heap.size + 2 := by simp
       clear g1 g3 hv5
       go_wp2_with (at_builtin; refine wpList_app1 TV.elem rfl _ _ 24 rfl (.agg zV) 64 Tryz.underlying24 info_Val rfl (X + 1) wz.heap.size a2 c2 l2 (by first | rfl | simp) HN.out (by simp; omega) (by omega) (w5.heap.size + 1) 0 1 t G (by first | rfl | simp) (by first | exact HTV.out | (have := HTV.out; simpa using this)) g2 HG.out (by unfold maxLen; omega) (by omega) ?_; intro ar2 cr2 w6 happ6 hb6 _; have hout4 := hout3.out.below hb6 (by omega); have ff4 := (fun i => hout4.frozen i); obtain ⟨p0, p1, p2, p3, p4⟩ := hout4.cells5)
       have hlt6 := hout4.lt
       have hHC := (HC5.out.below HB7.out (by omega)).below hb6 (by omega)
       have hHK : Kp A w w6 := Kp.grow (HK5.out.trans (Kp.of_below HB7.out (Nat.le_refl _) (by omega))) (hb6.mono (by omega)) (by omega)
       have hHI := HI7.out.below hb6 (by omega)
       go_roundw
       case rel =>
        refine ⟨i, l2 ++ [t], ar2, cr2, by go_num, by omega, by simp; omega, HLO2.out.elem HTD.out, by rw [T.szL_append]; show _ + (1 + T.sz t + 0) + _ ≤ _; omega, by rw [List.length_append]; exact hout4.set 4 _, ?_, hHI.miss X 4 (by omega) _, hHC.set (by omega) 4 _, Kp.set hHK (by omega) (by omega) 4 _⟩
        rw [size_set]
        exact happ6.agree TV.elem (fun f hf _ => heap_miss _ _ _ _ (by omega) _)
       case measure => simp [intOf]
     ·have hjg : ¬ (0 : Int) < (j : Int) := by omega
      have ff := fun i => HI.out.frozen i; have lg := HI.out.lt; obtain ⟨z0, z1, z2, z3, z4⟩ := HI.out.cells5
      obtain ⟨y0, y1, y2, y3, y4⟩ := HV.out.cells5
      go_wp2_with fail
      obtain ⟨e0, e1, e2, e3, e4, hcf, hkf, hof, hsf⟩ := fin5 (.int .i64 kd) (.int .i64 0) (.int .i64 0) (.string ⟨#[]⟩) (.slice a l.length cap) HI.out.blk HK.out (Nat.le_refl _) HC.out hlA
      refine bodyPost_ret (v := .agg #[.int .i64 kd, .int .i64 0, .int .i64 0, .string ⟨#[]⟩, .slice a l.length cap]) (by simp [results, Tryz.results115, go_sem, e0, e1, e2, e3, e4]) rfl ⟨.mk kd 0 0 ⟨#[]⟩ l, a, cap, rfl, wf_mk (by rcases hkd with rfl | rfl <;> exact ⟨by decide, by decide⟩) ⟨by decide, by decide⟩ ⟨by decide, by decide⟩ (by decide), Nat.zero_le _, ?_, ?_, ?_, hcf, hkf⟩
      ·simp only [T.sz]; rw [HBB.out]; show 0 + _ ≤ _; omega
      ·exact (HLO.out.done hkd (by omega)).more (by have := HDD.out; omega)
      ·rw [hsf]
       exact (HA.out.agree TV.elem (fun f h1 _ => hof f (by omega))).more (by omega) (Nat.le_refl _)
  rcases (show k = 0 ∨ k = 1 ∨ k = 2 ∨ k = 3 ∨ k = 4 ∨ k = 5 ∨ k = 6 ∨ k = 7 ∨ k = 8 ∨ k = 9 by omega) with rfl | rfl | rfl | rfl | rfl | rfl | rfl | rfl | rfl | rfl
  ·have HI3 := HI; have HC3 := HC; have HK3 := HK
   have ff := fun i => HI3.out.frozen i; have lg := HI3.out.lt; obtain ⟨z0, z1, z2, z3, z4⟩ := HI3.out.cells5
   go_wp2_with fail
   obtain ⟨e0, e1, e2, e3, e4, hcf, hkf, _, _⟩ := fin5 (.int .i64 1) (.int .i64 0) (.int .i64 0) (.string ⟨#[]⟩) (.slice none 0 0) HI3.out.blk HK3.out (Nat.le_refl _) HC3.out hlA
   refine bodyPost_ret (v := .agg #[.int .i64 1, .int .i64 0, .int .i64 0, .string ⟨#[]⟩, .slice none 0 0]) (by simp [results, Tryz.results115, go_sem, e0, e1, e2, e3, e4]) rfl (DrewT.leaf 1 0 0 ⟨#[]⟩ ⟨by decide, by decide⟩ (⟨by decide, by decide⟩) (⟨by decide, by decide⟩) (Nat.zero_le _) (by have := HP4.out; omega) (by omega) ((own1 _ _ _ _).2 ⟨dv_nil, rfl, rfl, rfl⟩) hcf hkf rfl)
  ·go_wp2_with fail
   refine (spec_l1Below A 2 wx HC.out ⟨by decide, by decide⟩).mono ?_
   rintro e w3 ⟨x, rfl, hx, _, hc3, hk3⟩
   have HC3 := Lib.hid hc3; have HI3 := Lib.hid (hk3.is HI.out (by omega)); have HK3 := Lib.hid (HK.out.trans hk3); clear hc3 hk3
   have ff := fun i => HI3.out.frozen i; have lg := HI3.out.lt; obtain ⟨z0, z1, z2, z3, z4⟩ := HI3.out.cells5
   go_wp2_with fail
   obtain ⟨e0, e1, e2, e3, e4, hcf, hkf, _, _⟩ := fin5 (.int .i64 2) (.int .i64 (x : Int)) (.int .i64 0) (.string ⟨#[]⟩) (.slice none 0 0) HI3.out.blk HK3.out (Nat.le_refl _) HC3.out hlA
   refine bodyPost_ret (v := .agg #[.int .i64 2, .int .i64 (x : Int), .int .i64 0, .string ⟨#[]⟩, .slice none 0 0]) (by simp [results, Tryz.results115, go_sem, e0, e1, e2, e3, e4]) rfl (DrewT.leaf 2 (x : Int) 0 ⟨#[]⟩ ⟨by decide, by decide⟩ (⟨by omega, by omega⟩) (⟨by decide, by decide⟩) (Nat.zero_le _) (by have := HP4.out; omega) (by omega) ((own2 _ _ _ _).2 ⟨dv_nil, rfl, rfl, by omega⟩) hcf hkf rfl)
  ·go_wp2_with fail
   refine (spec_l1Signed A wx HC.out).mono ?_
   rintro e w3 ⟨n, hn, rfl, hc3, hk3⟩
   have HC3 := Lib.hid hc3; have HI3 := Lib.hid (hk3.is HI.out (by omega)); have HK3 := Lib.hid (HK.out.trans hk3); clear hc3 hk3
   have HN := Lib.hid hn
   go_wp2_with fail
   refine (spec_IntVal n w3).mono ?_
   rintro e w4 ⟨rfl, hb4⟩
   have HC4 := Lib.hid (HC3.out.below hb4 HC3.out.lt); have HI4 := Lib.hid (HI3.out.below hb4 HI3.out.lt); have HK4 := Lib.hid (HK3.out.trans (Kp.of_below hb4 (Nat.le_refl _) (Nat.le_of_lt HC3.out.lt))); clear hb4
   have ff := fun i => HI4.out.frozen i; have lg := HI4.out.lt; obtain ⟨z0, z1, z2, z3, z4⟩ := HI4.out.cells5
   go_wp2_with fail
   obtain ⟨e0, e1, e2, e3, e4, hcf, hkf, _, _⟩ := fin5 (.int .i64 3) (.int .i64 n) (.int .i64 0) (.string ⟨#[]⟩) (.slice none 0 0) HI4.out.blk HK4.out (Nat.le_refl _) HC4.out hlA
   refine bodyPost_ret (v := .agg #[.int .i64 3, .int .i64 n, .int .i64 0, .string ⟨#[]⟩, .slice none 0 0]) (by simp [results, Tryz.results115, go_sem, e0, e1, e2, e3, e4]) rfl (DrewT.leaf 3 n 0 ⟨#[]⟩ ⟨by decide, by decide⟩ (⟨by have := HN.out; omega, by have := HN.out; omega⟩) (⟨by decide, by decide⟩) (Nat.zero_le _) (by have := HP4.out; omega) (by omega) ((own3 _ _ _ _).2 ⟨dv_nil, rfl, rfl, HN.out⟩) hcf hkf rfl)
  ·go_wp2_with fail
   refine (spec_l1Signed A wx HC.out).mono ?_
   rintro e w3 ⟨n, hn, rfl, hc3, hk3⟩
   have HC3 := Lib.hid hc3; have HI3 := Lib.hid (hk3.is HI.out (by omega)); have HK3 := Lib.hid (HK.out.trans hk3); clear hc3 hk3
   have HN := Lib.hid hn
   go_wp2_with fail
   refine (spec_IntVal n w3).mono ?_
   rintro e w4 ⟨rfl, hb4⟩
   have HC4 := Lib.hid (HC3.out.below hb4 HC3.out.lt); have HI4 := Lib.hid (HI3.out.below hb4 HI3.out.lt); have HK4 := Lib.hid (HK3.out.trans (Kp.of_below hb4 (Nat.le_refl _) (Nat.le_of_lt HC3.out.lt))); clear hb4
   have ff := fun i => HI4.out.frozen i; have lg := HI4.out.lt; obtain ⟨z0, z1, z2, z3, z4⟩ := HI4.out.cells5
   go_wp2_with fail
   obtain ⟨e0, e1, e2, e3, e4, hcf, hkf, _, _⟩ := fin5 (.int .i64 3) (.int .i64 n) (.int .i64 0) (.string ⟨#[]⟩) (.slice none 0 0) HI4.out.blk HK4.out (Nat.le_refl _) HC4.out hlA
   refine bodyPost_ret (v := .agg #[.int .i64 3, .int .i64 n, .int .i64 0, .string ⟨#[]⟩, .slice none 0 0]) (by simp [results, Tryz.results115, go_sem, e0, e1, e2, e3, e4]) rfl (DrewT.leaf 3 n 0 ⟨#[]⟩ ⟨by decide, by decide⟩ (⟨by have := HN.out; omega, by have := HN.out; omega⟩) (⟨by decide, by decide⟩) (Nat.zero_le _) (by have := HP4.out; omega) (by omega) ((own3 _ _ _ _).2 ⟨dv_nil, rfl, rfl, HN.out⟩) hcf hkf rfl)
  ·go_wp2_with fail
   refine (spec_l5Draw A wx HC.out).mono ?_
   rintro e w3 ⟨m, x, hfk, hm, hx, rfl, hc3, hk3⟩
   have HC3 := Lib.hid hc3; have HI3 := Lib.hid (hk3.is HI.out (by omega)); have HK3 := Lib.hid (HK.out.trans hk3); clear hc3 hk3
   have HFK := Lib.hid hfk; clear hfk
   have HM := Lib.hid hm; have HX := Lib.hid hx
   go_wp2_with fail
   refine (spec_l6FltVal m x w3).mono ?_
   rintro e w4 ⟨rfl, hb4⟩
   have HC4 := Lib.hid (HC3.out.below hb4 HC3.out.lt); have HI4 := Lib.hid (HI3.out.below hb4 HI3.out.lt); have HK4 := Lib.hid (HK3.out.trans (Kp.of_below hb4 (Nat.le_refl _) (Nat.le_of_lt HC3.out.lt))); clear hb4
   have ff := fun i => HI4.out.frozen i; have lg := HI4.out.lt; obtain ⟨z0, z1, z2, z3, z4⟩ := HI4.out.cells5
   go_wp2_with fail
   obtain ⟨e0, e1, e2, e3, e4, hcf, hkf, _, _⟩ := fin5 (.int .i64 4) (.int .i64 m) (.int .i64 x) (.string ⟨#[]⟩) (.slice none 0 0) HI4.out.blk HK4.out (Nat.le_refl _) HC4.out hlA
   refine bodyPost_ret (v := .agg #[.int .i64 4, .int .i64 m, .int .i64 x, .string ⟨#[]⟩, .slice none 0 0]) (by simp [results, Tryz.results115, go_sem, e0, e1, e2, e3, e4]) rfl (DrewT.leaf 4 m x ⟨#[]⟩ ⟨by decide, by decide⟩ (HM.out) (HX.out) (Nat.zero_le _) (by have := HP4.out; omega) (by omega) ((own4 _ _ _ _).2 ⟨dv_nil, rfl, HFK.out⟩) hcf hkf rfl)
  ·go_wp2_with fail
   refine (spec_l1Below A 3 wx HC.out ⟨by decide, by decide⟩).mono ?_
   rintro e w3 ⟨x, rfl, hx, _, hc3, hk3⟩
   have HC3 := Lib.hid hc3; have HI3 := Lib.hid (hk3.is HI.out (by omega)); have HK3 := Lib.hid (HK.out.trans hk3); clear hc3 hk3
   have ff := fun i => HI3.out.frozen i; have lg := HI3.out.lt; obtain ⟨z0, z1, z2, z3, z4⟩ := HI3.out.cells5
   go_wp2_with fail
   obtain ⟨e0, e1, e2, e3, e4, hcf, hkf, _, _⟩ := fin5 (.int .i64 5) (.int .i64 (x : Int)) (.int .i64 0) (.string ⟨#[]⟩) (.slice none 0 0) HI3.out.blk HK3.out (Nat.le_refl _) HC3.out hlA
   refine bodyPost_ret (v := .agg #[.int .i64 5, .int .i64 (x : Int), .int .i64 0, .string ⟨#[]⟩, .slice none 0 0]) (by simp [results, Tryz.results115, go_sem, e0, e1, e2, e3, e4]) rfl (DrewT.leaf 5 (x : Int) 0 ⟨#[]⟩ ⟨by decide, by decide⟩ (⟨by omega, by omega⟩) (⟨by decide, by decide⟩) (Nat.zero_le _) (by have := HP4.out; omega) (by omega) ((own5 _ _ _ _).2 ⟨dv_nil, rfl, rfl, by omega, by omega⟩) hcf hkf rfl)
  ·go_wp2_with fail
   refine (spec_l5Dec A wx HC.out).mono ?_
   rintro e w3 ⟨m, x, hdk, hm, hx, rfl, hc3, hk3⟩
   have HC3 := Lib.hid hc3; have HI3 := Lib.hid (hk3.is HI.out (by omega)); have HK3 := Lib.hid (HK.out.trans hk3); clear hc3 hk3
   have HDK := Lib.hid (dv_num hdk); clear hdk
   have HM := Lib.hid hm; have HX := Lib.hid hx
   go_wp2_with fail
   refine (spec_NumberVal m x w3).mono ?_
   rintro e w4 ⟨rfl, hb4⟩
   have HC4 := Lib.hid (HC3.out.below hb4 HC3.out.lt); have HI4 := Lib.hid (HI3.out.below hb4 HI3.out.lt); have HK4 := Lib.hid (HK3.out.trans (Kp.of_below hb4 (Nat.le_refl _) (Nat.le_of_lt HC3.out.lt))); clear hb4
   have hnv : (x = 0 ∧ numV (m, x) = .mk 3 m 0 ⟨#[]⟩ []) ∨ (x ≠ 0 ∧ numV (m, x) = .mk 6 m x ⟨#[]⟩ []) := by
    by_cases h : x = 0
    ·exact Or.inl ⟨h, if_pos h⟩
    ·exact Or.inr ⟨h, if_neg h⟩
   rcases hnv with ⟨hx0, hnv⟩ | ⟨hx0, hnv⟩
   ·rw [hnv]; dsimp only [cV, T.k, T.n, T.x, T.s, T.l, List.length]
    have HQ := Lib.hid (show ownQ 3 m 0 ⟨#[]⟩ 0 from (HDK.out.resolve_right (fun h => h.1 hx0)).2)
    clear hnv hx0
    have ff := fun i => HI4.out.frozen i; have lg := HI4.out.lt; obtain ⟨z0, z1, z2, z3, z4⟩ := HI4.out.cells5
    go_wp2_with fail
    obtain ⟨e0, e1, e2, e3, e4, hcf, hkf, _, _⟩ := fin5 (.int .i64 3) (.int .i64 m) (.int .i64 0) (.string ⟨#[]⟩) (.slice none 0 0) HI4.out.blk HK4.out (Nat.le_refl _) HC4.out hlA
    refine bodyPost_ret (v := .agg #[.int .i64 3, .int .i64 m, .int .i64 0, .string ⟨#[]⟩, .slice none 0 0]) (by simp [results, Tryz.results115, go_sem, e0, e1, e2, e3, e4]) rfl (DrewT.leaf 3 m 0 ⟨#[]⟩ ⟨by decide, by decide⟩ (HM.out) (⟨by decide, by decide⟩) (Nat.zero_le _) (by have := HP4.out; omega) (by omega) (HQ.out) hcf hkf rfl)
   ·rw [hnv]; dsimp only [cV, T.k, T.n, T.x, T.s, T.l, List.length]
    have HQ := Lib.hid (show ownQ 6 m x ⟨#[]⟩ 0 from (HDK.out.resolve_left (fun h => hx0 h.1)).2)
    clear hnv hx0
    have ff := fun i => HI4.out.frozen i; have lg := HI4.out.lt; obtain ⟨z0, z1, z2, z3, z4⟩ := HI4.out.cells5
    go_wp2_with fail
    obtain ⟨e0, e1, e2, e3, e4, hcf, hkf, _, _⟩ := fin5 (.int .i64 6) (.int .i64 m) (.int .i64 x) (.string ⟨#[]⟩) (.slice none 0 0) HI4.out.blk HK4.out (Nat.le_refl _) HC4.out hlA
    refine bodyPost_ret (v := .agg #[.int .i64 6, .int .i64 m, .int .i64 x, .string ⟨#[]⟩, .slice none 0 0]) (by simp [results, Tryz.results115, go_sem, e0, e1, e2, e3, e4]) rfl (DrewT.leaf 6 m x ⟨#[]⟩ ⟨by decide, by decide⟩ (HM.out) (HX.out) (Nat.zero_le _) (by have := HP4.out; omega) (by omega) (HQ.out) hcf hkf rfl)
  ·go_wp2_with fail
   refine (spec_l2Text A wx HC.out).mono ?_
   rintro e w3 ⟨s, hvd, hs, rfl, hc3, hk3⟩
   have HC3 := Lib.hid hc3; have HI3 := Lib.hid (hk3.is HI.out (by omega)); have HK3 := Lib.hid (HK.out.trans hk3); clear hc3 hk3
   have HVD := Lib.hid hvd; clear hvd
   have HS := Lib.hid hs
   go_wp2_with fail
   refine (spec_TextVal s w3).mono ?_
   rintro e w4 ⟨rfl, hb4⟩
   have HC4 := Lib.hid (HC3.out.below hb4 HC3.out.lt); have HI4 := Lib.hid (HI3.out.below hb4 HI3.out.lt); have HK4 := Lib.hid (HK3.out.trans (Kp.of_below hb4 (Nat.le_refl _) (Nat.le_of_lt HC3.out.lt))); clear hb4
   have ff := fun i => HI4.out.frozen i; have lg := HI4.out.lt; obtain ⟨z0, z1, z2, z3, z4⟩ := HI4.out.cells5
   go_wp2_with fail
   obtain ⟨e0, e1, e2, e3, e4, hcf, hkf, _, _⟩ := fin5 (.int .i64 7) (.int .i64 0) (.int .i64 0) (.string s) (.slice none 0 0) HI4.out.blk HK4.out (Nat.le_refl _) HC4.out hlA
   refine bodyPost_ret (v := .agg #[.int .i64 7, .int .i64 0, .int .i64 0, .string s, .slice none 0 0]) (by simp [results, Tryz.results115, go_sem, e0, e1, e2, e3, e4]) rfl (DrewT.leaf 7 0 0 s ⟨by decide, by decide⟩ (⟨by decide, by decide⟩) (⟨by decide, by decide⟩) (HS.out) (by have := HP4.out; omega) (by omega) ((own7 _ _ _ _).2 ⟨rfl, rfl, rfl, HVD.out⟩) hcf hkf rfl)
  ·go_wp2_with fail
   refine (spec_l1Below A 4 wx HC.out ⟨by decide, by decide⟩).mono ?_
   rintro e w3 ⟨x, rfl, hx, _, hc3, hk3⟩
   have HC3 := Lib.hid hc3; have HI3 := Lib.hid (hk3.is HI.out (by omega)); have HK3 := Lib.hid (HK.out.trans hk3); clear hc3 hk3
   go_wp2_with fail
   have hx3 : x ≤ 3 := by omega
   refine (spec_l1Bytes A x w3 HC3.out (by omega)).mono ?_
   rintro e w4 ⟨bs, a4, c4, hbl, rfl, happ, hc4, hk4⟩
   have HC4 := Lib.hid hc4; have HI4 := Lib.hid (hk4.is HI3.out (by omega)); have HK4 := Lib.hid (HK3.out.trans hk4); clear hc4 hk4
   have HBL := Lib.hid hbl; clear hbl
   have hcv := conv_bytes w4 w3.heap.size a4 c4 _ [] happ
   have HSZ := Lib.hid (show (strOfNums bs).size ≤ 12 from by rw [strOfNums_size, HBL.out]; omega)
   generalize strOfNums bs = O at *
   have ff := fun i => HI4.out.frozen i; have lg := HI4.out.lt; obtain ⟨z0, z1, z2, z3, z4⟩ := HI4.out.cells5
   go_wp2_with fail
   obtain ⟨e0, e1, e2, e3, e4, hcf, hkf, _, _⟩ := fin5 (.int .i64 8) (.int .i64 0) (.int .i64 0) (.string O) (.slice none 0 0) HI4.out.blk HK4.out (Nat.le_refl _) HC4.out hlA
   refine bodyPost_ret (v := .agg #[.int .i64 8, .int .i64 0, .int .i64 0, .string O, .slice none 0 0]) (by simp [results, Tryz.results115, go_sem, e0, e1, e2, e3, e4]) rfl (DrewT.leaf 8 0 0 O ⟨by decide, by decide⟩ (⟨by decide, by decide⟩) (⟨by decide, by decide⟩) (HSZ.out) (by have := HP4.out; omega) (by omega) ((own8 _ _ _ _).2 ⟨rfl, rfl, rfl⟩) hcf hkf rfl)
  ·obtain ⟨d', hdd⟩ : ∃ d', d = d' + 1 := ⟨d - 1, by omega⟩
   have hdz : (d : Int) - 1 = (d' : Int) := by omega
   have hdd2 : d' < d := by omega
   have hd3 : d' ≤ 2 := by omega
   have HDD := Lib.hid hdd; clear hdd
   go_wp2_with fail
   refine (spec_l1Below A 300 wx HC.out ⟨by decide, by decide⟩).mono ?_
   rintro e w3 ⟨x, rfl, hx, _, hc3, hk3⟩
   have HC3 := Lib.hid hc3; have HI3 := Lib.hid (hk3.is HI.out (by omega)); have HK3 := Lib.hid (HK.out.trans hk3); clear hc3 hk3
   go_wp2_with fail
   refine (IH.out d' hdd2 (by omega) w3 HC3.out).mono ?_
   rintro e w4 ⟨t, a4, c4, rfl, htw, hts, htz, htd, happ4, hc4, hk4⟩
   have HTD := Lib.hid htd; clear htd
   have HC4 := Lib.hid hc4; have HI4 := Lib.hid (hk4.is HI3.out (by omega)); have HA4 := Lib.hid happ4; have HK4 := Lib.hid (HK3.out.trans hk4); have hs34 := hk4.size; clear hc4 hk4 happ4
   have ff := fun i => HI4.out.frozen i; have lg := HI4.out.lt; obtain ⟨z0, z1, z2, z3, z4⟩ := HI4.out.cells5
   have h34 : w3.heap.size ≤ w4.heap.size := hs34
   have h03 := HI3.out.lt
   go_wp2_with fail
   obtain ⟨e0, e1, e2, e3, e4, hcf, hkf, hof, hsf⟩ := fin5a (.int .i64 11) (.int .i64 (x : Int)) (.int .i64 0) (.string ⟨#[]⟩) (.slice (some ⟨w4.heap.size, 0, none⟩) 1 1) (.cells (cV t a4 c4) 26) HI4.out.blk HK4.out (Nat.le_refl _) HC4.out hlA
   have happ := App.one (lo' := w.heap.size) (HA4.out.agree TV.elem (fun f h1 _ => hof f (by omega))) htw (by rw [hsf]; exact Nat.le_refl _) (by omega) h34
   rw [hsf] at happ
   have HBB := Lib.hid (show 30 * 4 ^ d = 4 * (30 * 4 ^ d') from by rw [HDD.out, Nat.pow_succ]; omega)
   refine bodyPost_ret (v := .agg #[.int .i64 11, .int .i64 (x : Int), .int .i64 0, .string ⟨#[]⟩, .slice (some ⟨w4.heap.size, 0, none⟩) 1 1]) (by simp [results, Tryz.results115, go_sem, e0, e1, e2, e3, e4]) rfl ⟨.mk 11 x 0 ⟨#[]⟩ [t], some ⟨w4.heap.size, 0, none⟩, 1, rfl, wf_mk ⟨by decide, by decide⟩ ⟨by omega, by omega⟩ ⟨by decide, by decide⟩ (by decide), Nat.zero_le _, ?_, ?_, ?_, hcf, hkf⟩
   ·rw [HBB.out]
    show 0 + (1 + T.sz t + 0) ≤ _
    have := pow4_pos d'
    omega
   ·exact (HTD.out.tag (by omega) (by omega)).more (by have := HDD.out; omega)
   ·rw [size_alloc, hsf]
    exact happ
end Go.Proofs.YtggdenkmohnijaaGreatDoor
